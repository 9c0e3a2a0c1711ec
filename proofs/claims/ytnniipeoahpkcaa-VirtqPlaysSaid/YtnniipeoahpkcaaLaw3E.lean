/- do of chapter 3's statements: Take, Give, Used, Poke. No condition beside the sizes that each names. -/
import Derived.Test.YtnniipeoahpkcaaLaw3D
namespace Go.Proofs.Ytnniipeoahpkcaa
set_option linter.unusedVariables false
set_option linter.unusedSimpArgs false
open Go.RowKit
section
variable {w : World} {L : List HP} {bb Z : Nat} {d : Dr} {r : Ring} {m : List UInt8} {T : List Nat} {l : List Bf} {la : Option Addr} {lc : Nat} {N M : Int}
set_option maxRecDepth 100000 in
set_option maxHeartbeats 4000000 in
theorem do_used {ln : Nat}  (pi : PI Z d r m) (hT : T.length ≤ 200 ∧ ∀ x ∈ T, x < 65536) (h : SatL w (BothR bb Z d r m T :: L)) :
    Calls Try.prog 19 #[.pointer (some ⟨bb, 0, none⟩), .agg #[.int .i64 4, .int .i64 N, .int .i64 M, .slice la ln lc]] w (Ret fun v w' => DoPost bb Z T L v w') := by
  obtain ⟨db, vb, xb, yb, mb, nb, tv, h0⟩ := sat_BothR.1 h
  have hbr := hid h
  clear h
  have h1 := h0.alloc (.cells #[.int .i64 4, .int .i64 N, .int .i64 M, .slice la ln lc] 51)
  have h1b : SatL (w.alloc (.cells #[.int .i64 4, .int .i64 N, .int .i64 M, .slice la ln lc] 51)) (cl w.heap.size 51 #[.int .i64 4, .int .i64 N, .int .i64 M, .slice la ln lc] :: _) := h1
  have hcl := hid (fun (w' : World) (X : List HP) (h : SatL w' (cl w.heap.size 51 #[.int .i64 4, .int .i64 N, .int .i64 M, .slice la ln lc] :: X)) => (⟨h.cell (i := 1) rfl, h.cell (i := 2) rfl⟩ : w'.cell? ⟨w.heap.size, 1, none⟩ = some (.int .i64 N) ∧ w'.cell? ⟨w.heap.size, 2, none⟩ = some (.int .i64 M)))
  have hbc := hid (fun (w' : World) (X : List HP) (h : SatL w' (cl bb 57 (bothV db vb xb yb (smV mb Z) (smV nb Z) tv).toArray :: X)) => both_cells h)
  have c0 := SatL.cell h1b (i := 0) (v := .int .i64 4) rfl
  have hmz : m.length ≤ 1000000 := by have := pi.ml; have := pi.zl; omega
  obtain ⟨d0, d1, d2, d3, d4, d5, d6⟩ := hbc.out _ _ h1b.tail
  have ka := used_ok pi.dk (h1b.bring [2, 4, 0, 1, 3, 5, 6, 7, 8])
  have kx := hid (fun (w' : World) (X : List HP) (h : SatL w' (XDrvR xb nb 0 Z Z d :: SlB 5 (smV nb Z) m :: X)) => refused_ok pi.dk hmz (pi.ow.key pi.dk) h)
  have Hpi := hid (show PI Z (d.used m).d r m from ⟨used_keeps pi.dk, pi.rk, pi.ow.used pi.dk, pi.ml, pi.zl⟩)
  generalize d.used m = J at *
  have hT2 := hid hT
  clear h0 h1 pi hmz hT d1 d2 d3 d4 d5 d6
  go_enter Try.func19, Try.ntmps19
  go_wp2_with (first
    | (go_at_call 15; (with_reducible refine ka.mono ?_); rintro e w3 ⟨v, rfl, rfl, h3⟩; obtain ⟨_, _, e2, _, _, _, _⟩ := hbc.out _ _ (h3.pull 3); have kq := kx.out _ _ (h3.bring [5, 7, 0, 1, 2, 3, 4, 6, 8]))
    | (go_at_call 36; (with_reducible refine kq.mono ?_); rintro e w4 ⟨v, rfl, rfl, h4⟩))
  go_ret
  refine Ret.mk ⟨rfl, J.d, r, m, T, Hpi.out, ⟨by omega, hT2.out.2⟩, sat_BothR.2 ⟨db, vb, xb, yb, mb, nb, tv, ?_⟩⟩
  exact SatL.tail (h4.bring [4, 5, 2, 6, 3, 0, 7, 1, 8])
set_option maxRecDepth 100000 in
set_option maxHeartbeats 4000000 in
theorem do_none {ln : Nat} {kd : Int} (hk : ¬ kd = 1 ∧ ¬ kd = 2 ∧ ¬ kd = 3 ∧ ¬ kd = 4 ∧ ¬ kd = 5) (pi : PI Z d r m) (hT : T.length ≤ 200 ∧ ∀ x ∈ T, x < 65536) (h : SatL w (BothR bb Z d r m T :: L)) :
    Calls Try.prog 19 #[.pointer (some ⟨bb, 0, none⟩), .agg #[.int .i64 kd, .int .i64 N, .int .i64 M, .slice la ln lc]] w (Ret fun v w' => DoPost bb Z T L v w') := by
  obtain ⟨db, vb, xb, yb, mb, nb, tv, h0⟩ := sat_BothR.1 h
  have hbr := hid h
  clear h
  have h1 := h0.alloc (.cells #[.int .i64 kd, .int .i64 N, .int .i64 M, .slice la ln lc] 51)
  have h1b : SatL (w.alloc (.cells #[.int .i64 kd, .int .i64 N, .int .i64 M, .slice la ln lc] 51)) (cl w.heap.size 51 #[.int .i64 kd, .int .i64 N, .int .i64 M, .slice la ln lc] :: _) := h1
  have hcl := hid (fun (w' : World) (X : List HP) (h : SatL w' (cl w.heap.size 51 #[.int .i64 kd, .int .i64 N, .int .i64 M, .slice la ln lc] :: X)) => (⟨h.cell (i := 1) rfl, h.cell (i := 2) rfl⟩ : w'.cell? ⟨w.heap.size, 1, none⟩ = some (.int .i64 N) ∧ w'.cell? ⟨w.heap.size, 2, none⟩ = some (.int .i64 M)))
  have hbc := hid (fun (w' : World) (X : List HP) (h : SatL w' (cl bb 57 (bothV db vb xb yb (smV mb Z) (smV nb Z) tv).toArray :: X)) => both_cells h)
  have c0 := SatL.cell h1b (i := 0) (v := .int .i64 kd) rfl
  have hmz : m.length ≤ 1000000 := by have := pi.ml; have := pi.zl; omega
  obtain ⟨d0, d1, d2, d3, d4, d5, d6⟩ := hbc.out _ _ h1b.tail
  obtain ⟨k1, k2, k3, k4, k5⟩ := hk
  have Hpi := hid pi
  have hT2 := hid hT
  have H1 := hid h1b
  clear h0 h1 h1b pi hmz hT d0 d1 d2 d3 d4 d5 d6
  go_enter Try.func19, Try.ntmps19
  go_wp2
  go_ret
  exact Ret.mk ⟨rfl, d, r, m, T, Hpi.out, ⟨by omega, hT2.out.2⟩, sat_BothR.2 ⟨db, vb, xb, yb, mb, nb, tv, H1.out.tail⟩⟩
set_option maxRecDepth 100000 in
set_option maxHeartbeats 4000000 in
theorem do_give {ln : Nat} (hr : (-9223372036854775808 ≤ N ∧ N ≤ 9223372036854775807) ∧ -9223372036854775808 ≤ M ∧ M ≤ 9223372036854775807) (pi : PI Z d r m) (hT : T.length ≤ 200 ∧ ∀ x ∈ T, x < 65536) (h : SatL w (BothR bb Z d r m T :: L)) :
    Calls Try.prog 19 #[.pointer (some ⟨bb, 0, none⟩), .agg #[.int .i64 3, .int .i64 N, .int .i64 M, .slice la ln lc]] w (Ret fun v w' => DoPost bb Z T L v w') := by
  obtain ⟨db, vb, xb, yb, mb, nb, tv, h0⟩ := sat_BothR.1 h
  have hbr := hid h
  clear h
  have h1 := h0.alloc (.cells #[.int .i64 3, .int .i64 N, .int .i64 M, .slice la ln lc] 51)
  have h1b : SatL (w.alloc (.cells #[.int .i64 3, .int .i64 N, .int .i64 M, .slice la ln lc] 51)) (cl w.heap.size 51 #[.int .i64 3, .int .i64 N, .int .i64 M, .slice la ln lc] :: _) := h1
  have hcl := hid (fun (w' : World) (X : List HP) (h : SatL w' (cl w.heap.size 51 #[.int .i64 3, .int .i64 N, .int .i64 M, .slice la ln lc] :: X)) => (⟨h.cell (i := 1) rfl, h.cell (i := 2) rfl⟩ : w'.cell? ⟨w.heap.size, 1, none⟩ = some (.int .i64 N) ∧ w'.cell? ⟨w.heap.size, 2, none⟩ = some (.int .i64 M)))
  have hbc := hid (fun (w' : World) (X : List HP) (h : SatL w' (cl bb 57 (bothV db vb xb yb (smV mb Z) (smV nb Z) tv).toArray :: X)) => both_cells h)
  have c0 := SatL.cell h1b (i := 0) (v := .int .i64 3) rfl
  have hmz : m.length ≤ 1000000 := by have := pi.ml; have := pi.zl; omega
  obtain ⟨d0, d1, d2, d3, d4, d5, d6⟩ := hbc.out _ _ h1b.tail
  obtain ⟨ta, tc, rfl, t1, t2⟩ := Sl.valn (h1b.pull 8 : SatL _ (Sl _ _ _ :: _)) (m := T.length) (by unfold natV; rw [List.length_map])
  have hTl : T.length ≤ 200 := hT.1
  have hT2 := hid hT
  obtain ⟨e1, e2⟩ := hcl.out _ _ h1b
  have Hpi := hid (fun x => (show PI Z d (r.give m x M).r (r.give m x M).m from by
    obtain ⟨k1, k2⟩ := give_keeps (h := x) (l := M) pi.rk
    exact ⟨by rw [k2]; exact pi.dk, by rw [k2]; exact k1, pi.ow, by rw [k2]; exact pi.ml, pi.zl⟩))
  have ka := hid (fun (w' : World) (X : List HP) (x : Int) (hx : -9223372036854775808 ≤ x ∧ x ≤ 9223372036854775807) (h : SatL w' (DevR vb mb 0 r :: SlB 5 (smV mb Z) m :: X)) => give_ok (h := x) (l := M) pi.rk ⟨hx, hr.2⟩ h)
  have kx := hid (fun (w' : World) (X : List HP) (x : Int) (hx : -9223372036854775808 ≤ x ∧ x ≤ 9223372036854775807) (h : SatL w' (XDevR yb nb 0 Z Z r :: SlB 5 (smV nb Z) m :: X)) => refgive_ok (h := x) (l := M) pi.rk hmz ⟨hx, hr.2⟩ h)
  have Hr := hid hr
  have H1 := hid h1b
  have htc := hid (fun (w' : World) (X : List HP) (i x : Nat) (hi : T[i]? = some x) (h : SatL w' (Sl 3 (.slice ta T.length tc) (natV T) :: X)) => (by
    obtain ⟨tb, te, rfl⟩ := Sl.addr h (by have := (List.getElem?_eq_some_iff.1 hi).1; omega)
    exact ⟨tb, te, rfl, Sl.cell h (i := i) (x := .int .i64 (x : Nat)) (by unfold natV; rw [List.getElem?_map, hi]; rfl)⟩ : ∃ tb te, ta = some ⟨tb, te, none⟩ ∧ w'.cell? ⟨tb, te + i, none⟩ = some (.int .i64 (x : Nat))))
  clear h0 h1 h1b pi hmz hT d0 d2 d4 d5 hr
  go_enter Try.func19, Try.ntmps19
  by_cases hn0 : 0 ≤ N
  · obtain ⟨p, rfl⟩ := Int.eq_ofNat_of_zero_le hn0
    by_cases hlt : p < T.length
    · have hpz : (p : Int) < T.length := by omega
      obtain ⟨x, hx⟩ : ∃ x, T[p]? = some x := ⟨_, List.getElem?_eq_getElem hlt⟩
      have hxb := hT2.out.2 x (List.mem_of_getElem? hx)
      obtain ⟨tb, te, rfl, ct⟩ := htc.out _ _ _ _ hx (H1.out.pull 8)
      clear hx htc
      go_upto_region 17 with fail
      have Hx := hid (show -9223372036854775808 ≤ (x : Int) ∧ (x : Int) ≤ 9223372036854775807 from by omega)
      have hs := sat_drew.2 H1.out
      have kA := ka.out _ _ (x : Int) Hx.out (hs.bring [3, 4, 0, 1, 2, 5, 6, 7, 8])
      have S1 : (w.alloc (.cells #[.int .i64 3, .int .i64 (p : Int), .int .i64 M, .slice la ln lc] 51)).drew.cell? ⟨w.heap.size, 2, none⟩ = some (.int .i64 M) ∧ (w.alloc (.cells #[.int .i64 3, .int .i64 (p : Int), .int .i64 M, .slice la ln lc] 51)).drew.cell? ⟨bb, 1, none⟩ = some (.pointer (some ⟨vb, 0, none⟩)) ∧ (w.alloc (.cells #[.int .i64 3, .int .i64 (p : Int), .int .i64 M, .slice la ln lc] 51)).drew.cell? ⟨bb, 3, none⟩ = some (.pointer (some ⟨yb, 0, none⟩)) := ⟨(hcl.out _ _ hs).2, (hbc.out _ _ (hs.pull 1)).2.1, (hbc.out _ _ (hs.pull 1)).2.2.2.1⟩
      clear hs H1
      refine GoE.start (fun w' => w'.cell? ⟨w.heap.size, 2, none⟩ = some (.int .i64 M) ∧ w'.cell? ⟨bb, 1, none⟩ = some (.pointer (some ⟨vb, 0, none⟩)) ∧ w'.cell? ⟨bb, 3, none⟩ = some (.pointer (some ⟨yb, 0, none⟩))) 17 18 rfl (by kernel_rfl) ?_
      refine GoE.take (i := 0) (v := ?_) rfl (by decide) (by kernel_rfl) (by kernel_rfl) (by kernel_rfl) (by kernel_rfl) (fun _ _ _ h => h) (by rfl) ?_ (by assumption) ?_
      rotate_left
      · intro w hSw; (try dsimp only at hSw); go_simp; try (with_reducible rfl)
      try simp only [Act.put, List.setIfInBounds_toArray, List.set_cons_zero, List.set_cons_succ]
      refine GoE.take (i := 1) (v := ?_) rfl (by decide) (by kernel_rfl) (by kernel_rfl) (by kernel_rfl) (by kernel_rfl) (fun _ _ _ h => h) (by rfl) ?_ (by assumption) ?_
      rotate_left
      · intro w hSw; (try dsimp only at hSw); go_simp; try (with_reducible rfl)
      try simp only [Act.put, List.setIfInBounds_toArray, List.set_cons_zero, List.set_cons_succ]
      refine GoE.take (i := 2) (v := ?_) rfl (by decide) (by kernel_rfl) (by kernel_rfl) (by kernel_rfl) (by kernel_rfl) (fun _ _ _ h => h) (by rfl) ?_ (by assumption) ?_
      rotate_left
      · intro w hSw; (try dsimp only at hSw); go_simp; try (with_reducible rfl)
      try simp only [Act.put, List.setIfInBounds_toArray, List.set_cons_zero, List.set_cons_succ]
      refine GoE.take (i := 3) (v := ?_) rfl (by decide) (by kernel_rfl) (by kernel_rfl) (by kernel_rfl) (by kernel_rfl) (fun _ _ _ h => h) (by rfl) ?_ (by assumption) ?_
      rotate_left
      · intro w hSw; (try dsimp only at hSw); go_simp; try (with_reducible rfl)
      try simp only [Act.put, List.setIfInBounds_toArray, List.set_cons_zero, List.set_cons_succ]
      refine GoE.take (i := 4) (v := ?_) rfl (by decide) (by kernel_rfl) (by kernel_rfl) (by kernel_rfl) (by kernel_rfl) (fun _ _ _ h => h) (by rfl) ?_ (by assumption) ?_
      rotate_left
      · intro w hSw; (try dsimp only at hSw); go_simp; try (with_reducible rfl)
      try simp only [Act.put, List.setIfInBounds_toArray, List.set_cons_zero, List.set_cons_succ]
      refine GoE.take (i := 5) (v := ?_) rfl (by decide) (by kernel_rfl) (by kernel_rfl) (by kernel_rfl) (by kernel_rfl) (fun _ _ _ h => h) (by rfl) ?_ (by assumption) ?_
      rotate_left
      · intro w hSw; (try dsimp only at hSw); go_simp; try (with_reducible rfl)
      try simp only [Act.put, List.setIfInBounds_toArray, List.set_cons_zero, List.set_cons_succ]
      refine GoE.take (i := 6) (v := ?_) rfl (by decide) (by kernel_rfl) (by kernel_rfl) (by kernel_rfl) (by kernel_rfl) (fun _ _ _ h => h) (by rfl) ?_ (by assumption) ?_
      rotate_left
      · intro w hSw; (try dsimp only at hSw); go_simp; try (with_reducible rfl)
      try simp only [Act.put, List.setIfInBounds_toArray, List.set_cons_zero, List.set_cons_succ]
      refine GoE.take (i := 8) (v := ?_) rfl (by decide) (by kernel_rfl) (by kernel_rfl) (by kernel_rfl) (by kernel_rfl) (fun _ _ _ h => h) (by rfl) ?_ (by assumption) ?_
      rotate_left
      · intro w hSw; (try dsimp only at hSw); go_simp; try (with_reducible rfl)
      try simp only [Act.put, List.setIfInBounds_toArray, List.set_cons_zero, List.set_cons_succ]
      refine GoE.take (i := 9) (v := ?_) rfl (by decide) (by kernel_rfl) (by kernel_rfl) (by kernel_rfl) (by kernel_rfl) (fun _ _ _ h => h) (by rfl) ?_ (by assumption) ?_
      rotate_left
      · intro w hSw; (try dsimp only at hSw); go_simp; try (with_reducible rfl)
      try simp only [Act.put, List.setIfInBounds_toArray, List.set_cons_zero, List.set_cons_succ]
      refine GoE.take (i := 10) (v := ?_) rfl (by decide) (by kernel_rfl) (by kernel_rfl) (by kernel_rfl) (by kernel_rfl) (fun _ _ _ h => h) (by rfl) ?_ (by assumption) ?_
      rotate_left
      · intro w hSw; (try dsimp only at hSw); go_simp; try (with_reducible rfl)
      try simp only [Act.put, List.setIfInBounds_toArray, List.set_cons_zero, List.set_cons_succ]
      refine GoE.take (i := 11) (v := ?_) rfl (by decide) (by kernel_rfl) (by kernel_rfl) (by kernel_rfl) (by kernel_rfl) (fun _ _ _ h => h) (by rfl) ?_ (by assumption) ?_
      rotate_left
      · intro w hSw; (try dsimp only at hSw); go_simp; try (with_reducible rfl)
      try simp only [Act.put, List.setIfInBounds_toArray, List.set_cons_zero, List.set_cons_succ]
      refine GoE.take (i := 12) (v := ?_) rfl (by decide) (by kernel_rfl) (by kernel_rfl) (by kernel_rfl) (by kernel_rfl) (fun _ _ _ h => h) (by rfl) ?_ (by assumption) ?_
      rotate_left
      · intro w hSw; (try dsimp only at hSw); go_simp; try (with_reducible rfl)
      try simp only [Act.put, List.setIfInBounds_toArray, List.set_cons_zero, List.set_cons_succ]
      refine GoE.take (i := 13) (v := ?_) rfl (by decide) (by kernel_rfl) (by kernel_rfl) (by kernel_rfl) (by kernel_rfl) (fun _ _ _ h => h) (by rfl) ?_ (by assumption) ?_
      rotate_left
      · intro w hSw; (try dsimp only at hSw); go_simp; try (with_reducible rfl)
      try simp only [Act.put, List.setIfInBounds_toArray, List.set_cons_zero, List.set_cons_succ]
      refine GoE.take (i := 14) (v := ?_) rfl (by decide) (by kernel_rfl) (by kernel_rfl) (by kernel_rfl) (by kernel_rfl) (fun _ _ _ h => h) (by rfl) ?_ (by assumption) ?_
      rotate_left
      · intro w hSw; (try dsimp only at hSw); go_simp; try (with_reducible rfl)
      try simp only [Act.put, List.setIfInBounds_toArray, List.set_cons_zero, List.set_cons_succ]
      refine GoE.one (i := 7) rfl (by kernel_rfl) (fun K hK => ?_)
      go_simp
      go_at_call 14
      (with_reducible refine (kA).mono ?_)
      rintro e w5 ⟨v, rfl, rfl, h5⟩; have S5 := And.intro (hcl.out _ _ (h5.pull 2)).2 (And.intro (hbc.out _ _ (h5.pull 3)).2.1 (hbc.out _ _ (h5.pull 3)).2.2.2.1); have kX := kx.out _ _ (x : Int) Hx.out (h5.bring [6, 7, 0, 1, 2, 3, 4, 5, 8])
      go_wp2_with fail
      refine hK.out _ _ (fun _ => S5) ?_
      clear hK K
      try simp only [Act.put, List.setIfInBounds_toArray, List.set_cons_zero, List.set_cons_succ]
      refine GoE.one (i := 15) rfl (by kernel_rfl) (fun K hK => ?_)
      go_simp
      go_at_call 35
      (with_reducible refine (kX).mono ?_)
      rintro e w6 ⟨v, rfl, rfl, h6⟩; have S6 := And.intro (hcl.out _ _ (h6.pull 4)).2 (And.intro (hbc.out _ _ (h6.pull 5)).2.1 (hbc.out _ _ (h6.pull 5)).2.2.2.1)
      go_wp2_with fail
      refine hK.out _ _ (fun _ => S6) ?_
      clear hK K
      try simp only [Act.put, List.setIfInBounds_toArray, List.set_cons_zero, List.set_cons_succ]
      refine GoE.take (i := 16) (v := ?_) rfl (by decide) (by kernel_rfl) (by kernel_rfl) (by kernel_rfl) (by kernel_rfl) (fun _ _ _ h => h) (by rfl) ?_ (by assumption) ?_
      rotate_left
      · intro w hSw; (try dsimp only at hSw); go_simp; try (with_reducible rfl)
      try simp only [Act.put, List.setIfInBounds_toArray, List.set_cons_zero, List.set_cons_succ]
      refine GoE.one (i := 17) rfl (by kernel_rfl) (fun K hK => ?_)
      go_simp
      refine hK.out _ _ (fun h => absurd rfl h) ?_
      clear hK K
      try simp only [Act.put, List.setIfInBounds_toArray, List.set_cons_zero, List.set_cons_succ]
      refine GoE.done (by kernel_rfl) ?_
      have Hq := Hpi.out (x : Int)
      generalize r.give m (x : Int) M = J at *
      go_wp2
      go_ret
      have h8 := SatL.tail (h6.bring [4, 5, 6, 2, 3, 7, 0, 1, 8])
      exact Ret.mk ⟨rfl, d, J.r, J.m, T, Hq, ⟨by omega, hT2.out.2⟩, sat_BothR.2 ⟨db, vb, xb, yb, mb, nb, _, h8⟩⟩
    · have hpz : ¬ (p : Int) < T.length := by omega
      clear htc
      go_upto_region 17 with fail
      have Hx := hid (show -9223372036854775808 ≤ (p : Int) ∧ (p : Int) ≤ 9223372036854775807 from Hr.out.1)
      have hs := sat_drew.2 H1.out
      have kA := ka.out _ _ (p : Int) Hx.out (hs.bring [3, 4, 0, 1, 2, 5, 6, 7, 8])
      have S1 : (w.alloc (.cells #[.int .i64 3, .int .i64 (p : Int), .int .i64 M, .slice la ln lc] 51)).drew.cell? ⟨w.heap.size, 2, none⟩ = some (.int .i64 M) ∧ (w.alloc (.cells #[.int .i64 3, .int .i64 (p : Int), .int .i64 M, .slice la ln lc] 51)).drew.cell? ⟨bb, 1, none⟩ = some (.pointer (some ⟨vb, 0, none⟩)) ∧ (w.alloc (.cells #[.int .i64 3, .int .i64 (p : Int), .int .i64 M, .slice la ln lc] 51)).drew.cell? ⟨bb, 3, none⟩ = some (.pointer (some ⟨yb, 0, none⟩)) := ⟨(hcl.out _ _ hs).2, (hbc.out _ _ (hs.pull 1)).2.1, (hbc.out _ _ (hs.pull 1)).2.2.2.1⟩
      clear hs H1
      refine GoE.start (fun w' => w'.cell? ⟨w.heap.size, 2, none⟩ = some (.int .i64 M) ∧ w'.cell? ⟨bb, 1, none⟩ = some (.pointer (some ⟨vb, 0, none⟩)) ∧ w'.cell? ⟨bb, 3, none⟩ = some (.pointer (some ⟨yb, 0, none⟩))) 17 18 rfl (by kernel_rfl) ?_
      refine GoE.take (i := 0) (v := ?_) rfl (by decide) (by kernel_rfl) (by kernel_rfl) (by kernel_rfl) (by kernel_rfl) (fun _ _ _ h => h) (by rfl) ?_ (by assumption) ?_
      rotate_left
      · intro w hSw; (try dsimp only at hSw); go_simp; try (with_reducible rfl)
      try simp only [Act.put, List.setIfInBounds_toArray, List.set_cons_zero, List.set_cons_succ]
      refine GoE.take (i := 1) (v := ?_) rfl (by decide) (by kernel_rfl) (by kernel_rfl) (by kernel_rfl) (by kernel_rfl) (fun _ _ _ h => h) (by rfl) ?_ (by assumption) ?_
      rotate_left
      · intro w hSw; (try dsimp only at hSw); go_simp; try (with_reducible rfl)
      try simp only [Act.put, List.setIfInBounds_toArray, List.set_cons_zero, List.set_cons_succ]
      refine GoE.take (i := 2) (v := ?_) rfl (by decide) (by kernel_rfl) (by kernel_rfl) (by kernel_rfl) (by kernel_rfl) (fun _ _ _ h => h) (by rfl) ?_ (by assumption) ?_
      rotate_left
      · intro w hSw; (try dsimp only at hSw); go_simp; try (with_reducible rfl)
      try simp only [Act.put, List.setIfInBounds_toArray, List.set_cons_zero, List.set_cons_succ]
      refine GoE.take (i := 3) (v := ?_) rfl (by decide) (by kernel_rfl) (by kernel_rfl) (by kernel_rfl) (by kernel_rfl) (fun _ _ _ h => h) (by rfl) ?_ (by assumption) ?_
      rotate_left
      · intro w hSw; (try dsimp only at hSw); go_simp; try (with_reducible rfl)
      try simp only [Act.put, List.setIfInBounds_toArray, List.set_cons_zero, List.set_cons_succ]
      refine GoE.take (i := 4) (v := ?_) rfl (by decide) (by kernel_rfl) (by kernel_rfl) (by kernel_rfl) (by kernel_rfl) (fun _ _ _ h => h) (by rfl) ?_ (by assumption) ?_
      rotate_left
      · intro w hSw; (try dsimp only at hSw); go_simp; try (with_reducible rfl)
      try simp only [Act.put, List.setIfInBounds_toArray, List.set_cons_zero, List.set_cons_succ]
      refine GoE.take (i := 5) (v := ?_) rfl (by decide) (by kernel_rfl) (by kernel_rfl) (by kernel_rfl) (by kernel_rfl) (fun _ _ _ h => h) (by rfl) ?_ (by assumption) ?_
      rotate_left
      · intro w hSw; (try dsimp only at hSw); go_simp; try (with_reducible rfl)
      try simp only [Act.put, List.setIfInBounds_toArray, List.set_cons_zero, List.set_cons_succ]
      refine GoE.take (i := 6) (v := ?_) rfl (by decide) (by kernel_rfl) (by kernel_rfl) (by kernel_rfl) (by kernel_rfl) (fun _ _ _ h => h) (by rfl) ?_ (by assumption) ?_
      rotate_left
      · intro w hSw; (try dsimp only at hSw); go_simp; try (with_reducible rfl)
      try simp only [Act.put, List.setIfInBounds_toArray, List.set_cons_zero, List.set_cons_succ]
      refine GoE.take (i := 8) (v := ?_) rfl (by decide) (by kernel_rfl) (by kernel_rfl) (by kernel_rfl) (by kernel_rfl) (fun _ _ _ h => h) (by rfl) ?_ (by assumption) ?_
      rotate_left
      · intro w hSw; (try dsimp only at hSw); go_simp; try (with_reducible rfl)
      try simp only [Act.put, List.setIfInBounds_toArray, List.set_cons_zero, List.set_cons_succ]
      refine GoE.take (i := 9) (v := ?_) rfl (by decide) (by kernel_rfl) (by kernel_rfl) (by kernel_rfl) (by kernel_rfl) (fun _ _ _ h => h) (by rfl) ?_ (by assumption) ?_
      rotate_left
      · intro w hSw; (try dsimp only at hSw); go_simp; try (with_reducible rfl)
      try simp only [Act.put, List.setIfInBounds_toArray, List.set_cons_zero, List.set_cons_succ]
      refine GoE.take (i := 10) (v := ?_) rfl (by decide) (by kernel_rfl) (by kernel_rfl) (by kernel_rfl) (by kernel_rfl) (fun _ _ _ h => h) (by rfl) ?_ (by assumption) ?_
      rotate_left
      · intro w hSw; (try dsimp only at hSw); go_simp; try (with_reducible rfl)
      try simp only [Act.put, List.setIfInBounds_toArray, List.set_cons_zero, List.set_cons_succ]
      refine GoE.take (i := 11) (v := ?_) rfl (by decide) (by kernel_rfl) (by kernel_rfl) (by kernel_rfl) (by kernel_rfl) (fun _ _ _ h => h) (by rfl) ?_ (by assumption) ?_
      rotate_left
      · intro w hSw; (try dsimp only at hSw); go_simp; try (with_reducible rfl)
      try simp only [Act.put, List.setIfInBounds_toArray, List.set_cons_zero, List.set_cons_succ]
      refine GoE.take (i := 12) (v := ?_) rfl (by decide) (by kernel_rfl) (by kernel_rfl) (by kernel_rfl) (by kernel_rfl) (fun _ _ _ h => h) (by rfl) ?_ (by assumption) ?_
      rotate_left
      · intro w hSw; (try dsimp only at hSw); go_simp; try (with_reducible rfl)
      try simp only [Act.put, List.setIfInBounds_toArray, List.set_cons_zero, List.set_cons_succ]
      refine GoE.take (i := 13) (v := ?_) rfl (by decide) (by kernel_rfl) (by kernel_rfl) (by kernel_rfl) (by kernel_rfl) (fun _ _ _ h => h) (by rfl) ?_ (by assumption) ?_
      rotate_left
      · intro w hSw; (try dsimp only at hSw); go_simp; try (with_reducible rfl)
      try simp only [Act.put, List.setIfInBounds_toArray, List.set_cons_zero, List.set_cons_succ]
      refine GoE.take (i := 14) (v := ?_) rfl (by decide) (by kernel_rfl) (by kernel_rfl) (by kernel_rfl) (by kernel_rfl) (fun _ _ _ h => h) (by rfl) ?_ (by assumption) ?_
      rotate_left
      · intro w hSw; (try dsimp only at hSw); go_simp; try (with_reducible rfl)
      try simp only [Act.put, List.setIfInBounds_toArray, List.set_cons_zero, List.set_cons_succ]
      refine GoE.one (i := 7) rfl (by kernel_rfl) (fun K hK => ?_)
      go_simp
      go_at_call 14
      (with_reducible refine (kA).mono ?_)
      rintro e w5 ⟨v, rfl, rfl, h5⟩; have S5 := And.intro (hcl.out _ _ (h5.pull 2)).2 (And.intro (hbc.out _ _ (h5.pull 3)).2.1 (hbc.out _ _ (h5.pull 3)).2.2.2.1); have kX := kx.out _ _ (p : Int) Hx.out (h5.bring [6, 7, 0, 1, 2, 3, 4, 5, 8])
      go_wp2_with fail
      refine hK.out _ _ (fun _ => S5) ?_
      clear hK K
      try simp only [Act.put, List.setIfInBounds_toArray, List.set_cons_zero, List.set_cons_succ]
      refine GoE.one (i := 15) rfl (by kernel_rfl) (fun K hK => ?_)
      go_simp
      go_at_call 35
      (with_reducible refine (kX).mono ?_)
      rintro e w6 ⟨v, rfl, rfl, h6⟩; have S6 := And.intro (hcl.out _ _ (h6.pull 4)).2 (And.intro (hbc.out _ _ (h6.pull 5)).2.1 (hbc.out _ _ (h6.pull 5)).2.2.2.1)
      go_wp2_with fail
      refine hK.out _ _ (fun _ => S6) ?_
      clear hK K
      try simp only [Act.put, List.setIfInBounds_toArray, List.set_cons_zero, List.set_cons_succ]
      refine GoE.take (i := 16) (v := ?_) rfl (by decide) (by kernel_rfl) (by kernel_rfl) (by kernel_rfl) (by kernel_rfl) (fun _ _ _ h => h) (by rfl) ?_ (by assumption) ?_
      rotate_left
      · intro w hSw; (try dsimp only at hSw); go_simp; try (with_reducible rfl)
      try simp only [Act.put, List.setIfInBounds_toArray, List.set_cons_zero, List.set_cons_succ]
      refine GoE.one (i := 17) rfl (by kernel_rfl) (fun K hK => ?_)
      go_simp
      refine hK.out _ _ (fun h => absurd rfl h) ?_
      clear hK K
      try simp only [Act.put, List.setIfInBounds_toArray, List.set_cons_zero, List.set_cons_succ]
      refine GoE.done (by kernel_rfl) ?_
      have Hq := Hpi.out (p : Int)
      generalize r.give m (p : Int) M = J at *
      go_wp2
      go_ret
      have h8 := SatL.tail (h6.bring [4, 5, 6, 2, 3, 7, 0, 1, 8])
      exact Ret.mk ⟨rfl, d, J.r, J.m, T, Hq, ⟨by omega, hT2.out.2⟩, sat_BothR.2 ⟨db, vb, xb, yb, mb, nb, _, h8⟩⟩
  · have hn1 : N < 0 := by omega
    clear htc
    go_upto_region 17 with fail
    have Hx := hid (show -9223372036854775808 ≤ N ∧ N ≤ 9223372036854775807 from Hr.out.1)
    have hs := sat_drew.2 H1.out
    have kA := ka.out _ _ N Hx.out (hs.bring [3, 4, 0, 1, 2, 5, 6, 7, 8])
    have S1 : (w.alloc (.cells #[.int .i64 3, .int .i64 N, .int .i64 M, .slice la ln lc] 51)).drew.cell? ⟨w.heap.size, 2, none⟩ = some (.int .i64 M) ∧ (w.alloc (.cells #[.int .i64 3, .int .i64 N, .int .i64 M, .slice la ln lc] 51)).drew.cell? ⟨bb, 1, none⟩ = some (.pointer (some ⟨vb, 0, none⟩)) ∧ (w.alloc (.cells #[.int .i64 3, .int .i64 N, .int .i64 M, .slice la ln lc] 51)).drew.cell? ⟨bb, 3, none⟩ = some (.pointer (some ⟨yb, 0, none⟩)) := ⟨(hcl.out _ _ hs).2, (hbc.out _ _ (hs.pull 1)).2.1, (hbc.out _ _ (hs.pull 1)).2.2.2.1⟩
    clear hs H1
    refine GoE.start (fun w' => w'.cell? ⟨w.heap.size, 2, none⟩ = some (.int .i64 M) ∧ w'.cell? ⟨bb, 1, none⟩ = some (.pointer (some ⟨vb, 0, none⟩)) ∧ w'.cell? ⟨bb, 3, none⟩ = some (.pointer (some ⟨yb, 0, none⟩))) 17 18 rfl (by kernel_rfl) ?_
    refine GoE.take (i := 0) (v := ?_) rfl (by decide) (by kernel_rfl) (by kernel_rfl) (by kernel_rfl) (by kernel_rfl) (fun _ _ _ h => h) (by rfl) ?_ (by assumption) ?_
    rotate_left
    · intro w hSw; (try dsimp only at hSw); go_simp; try (with_reducible rfl)
    try simp only [Act.put, List.setIfInBounds_toArray, List.set_cons_zero, List.set_cons_succ]
    refine GoE.take (i := 1) (v := ?_) rfl (by decide) (by kernel_rfl) (by kernel_rfl) (by kernel_rfl) (by kernel_rfl) (fun _ _ _ h => h) (by rfl) ?_ (by assumption) ?_
    rotate_left
    · intro w hSw; (try dsimp only at hSw); go_simp; try (with_reducible rfl)
    try simp only [Act.put, List.setIfInBounds_toArray, List.set_cons_zero, List.set_cons_succ]
    refine GoE.take (i := 2) (v := ?_) rfl (by decide) (by kernel_rfl) (by kernel_rfl) (by kernel_rfl) (by kernel_rfl) (fun _ _ _ h => h) (by rfl) ?_ (by assumption) ?_
    rotate_left
    · intro w hSw; (try dsimp only at hSw); go_simp; try (with_reducible rfl)
    try simp only [Act.put, List.setIfInBounds_toArray, List.set_cons_zero, List.set_cons_succ]
    refine GoE.take (i := 3) (v := ?_) rfl (by decide) (by kernel_rfl) (by kernel_rfl) (by kernel_rfl) (by kernel_rfl) (fun _ _ _ h => h) (by rfl) ?_ (by assumption) ?_
    rotate_left
    · intro w hSw; (try dsimp only at hSw); go_simp; try (with_reducible rfl)
    try simp only [Act.put, List.setIfInBounds_toArray, List.set_cons_zero, List.set_cons_succ]
    refine GoE.take (i := 4) (v := ?_) rfl (by decide) (by kernel_rfl) (by kernel_rfl) (by kernel_rfl) (by kernel_rfl) (fun _ _ _ h => h) (by rfl) ?_ (by assumption) ?_
    rotate_left
    · intro w hSw; (try dsimp only at hSw); go_simp; try (with_reducible rfl)
    try simp only [Act.put, List.setIfInBounds_toArray, List.set_cons_zero, List.set_cons_succ]
    refine GoE.take (i := 5) (v := ?_) rfl (by decide) (by kernel_rfl) (by kernel_rfl) (by kernel_rfl) (by kernel_rfl) (fun _ _ _ h => h) (by rfl) ?_ (by assumption) ?_
    rotate_left
    · intro w hSw; (try dsimp only at hSw); go_simp; try (with_reducible rfl)
    try simp only [Act.put, List.setIfInBounds_toArray, List.set_cons_zero, List.set_cons_succ]
    refine GoE.take (i := 6) (v := ?_) rfl (by decide) (by kernel_rfl) (by kernel_rfl) (by kernel_rfl) (by kernel_rfl) (fun _ _ _ h => h) (by rfl) ?_ (by assumption) ?_
    rotate_left
    · intro w hSw; (try dsimp only at hSw); go_simp; try (with_reducible rfl)
    try simp only [Act.put, List.setIfInBounds_toArray, List.set_cons_zero, List.set_cons_succ]
    refine GoE.take (i := 8) (v := ?_) rfl (by decide) (by kernel_rfl) (by kernel_rfl) (by kernel_rfl) (by kernel_rfl) (fun _ _ _ h => h) (by rfl) ?_ (by assumption) ?_
    rotate_left
    · intro w hSw; (try dsimp only at hSw); go_simp; try (with_reducible rfl)
    try simp only [Act.put, List.setIfInBounds_toArray, List.set_cons_zero, List.set_cons_succ]
    refine GoE.take (i := 9) (v := ?_) rfl (by decide) (by kernel_rfl) (by kernel_rfl) (by kernel_rfl) (by kernel_rfl) (fun _ _ _ h => h) (by rfl) ?_ (by assumption) ?_
    rotate_left
    · intro w hSw; (try dsimp only at hSw); go_simp; try (with_reducible rfl)
    try simp only [Act.put, List.setIfInBounds_toArray, List.set_cons_zero, List.set_cons_succ]
    refine GoE.take (i := 10) (v := ?_) rfl (by decide) (by kernel_rfl) (by kernel_rfl) (by kernel_rfl) (by kernel_rfl) (fun _ _ _ h => h) (by rfl) ?_ (by assumption) ?_
    rotate_left
    · intro w hSw; (try dsimp only at hSw); go_simp; try (with_reducible rfl)
    try simp only [Act.put, List.setIfInBounds_toArray, List.set_cons_zero, List.set_cons_succ]
    refine GoE.take (i := 11) (v := ?_) rfl (by decide) (by kernel_rfl) (by kernel_rfl) (by kernel_rfl) (by kernel_rfl) (fun _ _ _ h => h) (by rfl) ?_ (by assumption) ?_
    rotate_left
    · intro w hSw; (try dsimp only at hSw); go_simp; try (with_reducible rfl)
    try simp only [Act.put, List.setIfInBounds_toArray, List.set_cons_zero, List.set_cons_succ]
    refine GoE.take (i := 12) (v := ?_) rfl (by decide) (by kernel_rfl) (by kernel_rfl) (by kernel_rfl) (by kernel_rfl) (fun _ _ _ h => h) (by rfl) ?_ (by assumption) ?_
    rotate_left
    · intro w hSw; (try dsimp only at hSw); go_simp; try (with_reducible rfl)
    try simp only [Act.put, List.setIfInBounds_toArray, List.set_cons_zero, List.set_cons_succ]
    refine GoE.take (i := 13) (v := ?_) rfl (by decide) (by kernel_rfl) (by kernel_rfl) (by kernel_rfl) (by kernel_rfl) (fun _ _ _ h => h) (by rfl) ?_ (by assumption) ?_
    rotate_left
    · intro w hSw; (try dsimp only at hSw); go_simp; try (with_reducible rfl)
    try simp only [Act.put, List.setIfInBounds_toArray, List.set_cons_zero, List.set_cons_succ]
    refine GoE.take (i := 14) (v := ?_) rfl (by decide) (by kernel_rfl) (by kernel_rfl) (by kernel_rfl) (by kernel_rfl) (fun _ _ _ h => h) (by rfl) ?_ (by assumption) ?_
    rotate_left
    · intro w hSw; (try dsimp only at hSw); go_simp; try (with_reducible rfl)
    try simp only [Act.put, List.setIfInBounds_toArray, List.set_cons_zero, List.set_cons_succ]
    refine GoE.one (i := 7) rfl (by kernel_rfl) (fun K hK => ?_)
    go_simp
    go_at_call 14
    (with_reducible refine (kA).mono ?_)
    rintro e w5 ⟨v, rfl, rfl, h5⟩; have S5 := And.intro (hcl.out _ _ (h5.pull 2)).2 (And.intro (hbc.out _ _ (h5.pull 3)).2.1 (hbc.out _ _ (h5.pull 3)).2.2.2.1); have kX := kx.out _ _ N Hx.out (h5.bring [6, 7, 0, 1, 2, 3, 4, 5, 8])
    go_wp2_with fail
    refine hK.out _ _ (fun _ => S5) ?_
    clear hK K
    try simp only [Act.put, List.setIfInBounds_toArray, List.set_cons_zero, List.set_cons_succ]
    refine GoE.one (i := 15) rfl (by kernel_rfl) (fun K hK => ?_)
    go_simp
    go_at_call 35
    (with_reducible refine (kX).mono ?_)
    rintro e w6 ⟨v, rfl, rfl, h6⟩; have S6 := And.intro (hcl.out _ _ (h6.pull 4)).2 (And.intro (hbc.out _ _ (h6.pull 5)).2.1 (hbc.out _ _ (h6.pull 5)).2.2.2.1)
    go_wp2_with fail
    refine hK.out _ _ (fun _ => S6) ?_
    clear hK K
    try simp only [Act.put, List.setIfInBounds_toArray, List.set_cons_zero, List.set_cons_succ]
    refine GoE.take (i := 16) (v := ?_) rfl (by decide) (by kernel_rfl) (by kernel_rfl) (by kernel_rfl) (by kernel_rfl) (fun _ _ _ h => h) (by rfl) ?_ (by assumption) ?_
    rotate_left
    · intro w hSw; (try dsimp only at hSw); go_simp; try (with_reducible rfl)
    try simp only [Act.put, List.setIfInBounds_toArray, List.set_cons_zero, List.set_cons_succ]
    refine GoE.one (i := 17) rfl (by kernel_rfl) (fun K hK => ?_)
    go_simp
    refine hK.out _ _ (fun h => absurd rfl h) ?_
    clear hK K
    try simp only [Act.put, List.setIfInBounds_toArray, List.set_cons_zero, List.set_cons_succ]
    refine GoE.done (by kernel_rfl) ?_
    have Hq := Hpi.out N
    generalize r.give m N M = J at *
    go_wp2
    go_ret
    have h8 := SatL.tail (h6.bring [4, 5, 6, 2, 3, 7, 0, 1, 8])
    exact Ret.mk ⟨rfl, d, J.r, J.m, T, Hq, ⟨by omega, hT2.out.2⟩, sat_BothR.2 ⟨db, vb, xb, yb, mb, nb, _, h8⟩⟩
end
end Go.Proofs.Ytnniipeoahpkcaa
