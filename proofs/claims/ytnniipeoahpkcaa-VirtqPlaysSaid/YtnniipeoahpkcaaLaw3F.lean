/- do of chapter 3's statements: Take, Give, Used, Poke. No condition beside the sizes that each names. -/
import Derived.Test.YtnniipeoahpkcaaLaw3E
namespace Go.Proofs.Ytnniipeoahpkcaa
set_option linter.unusedVariables false
set_option linter.unusedSimpArgs false
open Go.RowKit
theorem poke_set (m : List UInt8) (p : Nat) (M : Int) : (bvs m).set p (.int .u8 (IntKind.u8.wrap M)) = bvs (m.set p (byteOf (M % 256).toNat)) := by
  unfold bvs
  rw [List.map_set]
  congr 1
  rw [bv_byteOf]
  congr 1
  show M % 256 = _
  omega
section
variable {w : World} {L : List HP} {bb Z : Nat} {d : Dr} {r : Ring} {m : List UInt8} {T : List Nat} {l : List Bf} {la : Option Addr} {lc : Nat} {N M : Int}
set_option maxRecDepth 100000 in
set_option maxHeartbeats 4000000 in
theorem do_poke {ln : Nat}  (pi : PI Z d r m) (hT : T.length ≤ 200 ∧ ∀ x ∈ T, x < 65536) (h : SatL w (BothR bb Z d r m T :: L)) :
    Calls Try.prog 19 #[.pointer (some ⟨bb, 0, none⟩), .agg #[.int .i64 5, .int .i64 N, .int .i64 M, .slice la ln lc]] w (Ret fun v w' => DoPost bb Z T L v w') := by
  obtain ⟨db, vb, xb, yb, mb, nb, tv, h0⟩ := sat_BothR.1 h
  have hbr := hid h
  clear h
  have h1 := h0.alloc (.cells #[.int .i64 5, .int .i64 N, .int .i64 M, .slice la ln lc] 51)
  have h1b : SatL (w.alloc (.cells #[.int .i64 5, .int .i64 N, .int .i64 M, .slice la ln lc] 51)) (cl w.heap.size 51 #[.int .i64 5, .int .i64 N, .int .i64 M, .slice la ln lc] :: _) := h1
  have hcl := hid (fun (w' : World) (X : List HP) (h : SatL w' (cl w.heap.size 51 #[.int .i64 5, .int .i64 N, .int .i64 M, .slice la ln lc] :: X)) => (⟨h.cell (i := 1) rfl, h.cell (i := 2) rfl⟩ : w'.cell? ⟨w.heap.size, 1, none⟩ = some (.int .i64 N) ∧ w'.cell? ⟨w.heap.size, 2, none⟩ = some (.int .i64 M)))
  have hbc := hid (fun (w' : World) (X : List HP) (h : SatL w' (cl bb 57 (bothV db vb xb yb (smV mb Z) (smV nb Z) tv).toArray :: X)) => both_cells h)
  have c0 := SatL.cell h1b (i := 0) (v := .int .i64 5) rfl
  have hmz : m.length ≤ 1000000 := by have := pi.ml; have := pi.zl; omega
  obtain ⟨d0, d1, d2, d3, d4, d5, d6⟩ := hbc.out _ _ h1b.tail
  obtain ⟨e1, e2⟩ := hcl.out _ _ h1b
  have Hpi := hid (fun (p : Nat) (b : UInt8) => (show PI Z d r (m.set p b) from ⟨by rw [List.length_set]; exact pi.dk, by rw [List.length_set]; exact pi.rk, pi.ow, by rw [List.length_set]; exact pi.ml, pi.zl⟩))
  have Hpi0 := hid pi
  have hml := pi.ml
  have hzl := pi.zl
  have hT2 := hid hT
  have H1 := hid h1b
  clear h0 h1 h1b pi hmz hT d0 d1 d2 d3 d6
  go_enter Try.func19, Try.ntmps19
  by_cases hin : 0 ≤ N ∧ N < Z
  · obtain ⟨hn0, hn1⟩ := hin
    obtain ⟨p, rfl⟩ := Int.eq_ofNat_of_zero_le hn0
    have hpz : p < Z := by omega
    have hpz2 : decide ((p : Int) < (Z : Int)) = true := by simp; omega
    have hpz3 : decide (0 ≤ (p : Int)) = true := by simp
    go_upto_region 23 with fail
    go_quiet (fail)
    have h2 := (sat_dn.2 H1.out : SatL ((w.alloc (.cells #[.int .i64 5, .int .i64 (p : Int), .int .i64 M, .slice la ln lc] 51)).drewN nq) _)
    clear H1 c0 d4 d5 e1 e2 hpz2 hpz3
    generalize (w.alloc (.cells #[.int .i64 5, .int .i64 (p : Int), .int .i64 M, .slice la ln lc] 51)).drewN nq = wA at *
    have hin : p < (bvs m).length := by rw [bvs_len, hml]; exact hpz
    have hps := hid (poke_set m p M)
    have hd := sat_drew.2 h2
    have hA := Sl.set (h2.pull 4 : SatL wA (Sl _ _ _ :: _)) (i := p) hin (.int .u8 (IntKind.u8.wrap M))
    rw [Nat.zero_add, hps.out] at hA
    have fA := Sl.free (hd.pull 4 : SatL wA.drew (Sl _ _ _ :: _)) (0 + p)
    obtain ⟨u, cu⟩ : ∃ u, wA.drew.cell? ⟨mb, 0 + p, none⟩ = some u := ⟨_, Sl.cell (hd.pull 4 : SatL wA.drew (Sl _ _ _ :: _)) (List.getElem?_eq_getElem hin)⟩
    rw [Nat.zero_add] at cu fA
    have S1 : wA.drew.cell? ⟨bb, 4, none⟩ = some (smV mb Z) ∧ wA.drew.cell? ⟨w.heap.size, 1, none⟩ = some (.int .i64 (p : Int)) ∧ wA.drew.cell? ⟨w.heap.size, 2, none⟩ = some (.int .i64 M) := ⟨(hbc.out _ _ (hd.pull 1)).2.2.2.2.1, (hcl.out _ _ hd).1, (hcl.out _ _ hd).2⟩
    have hA2 := hid hA
    clear hd hA h2
    go_upto_region 24 with fail
    refine GoE.start (fun w' => w'.cell? ⟨bb, 4, none⟩ = some (smV mb Z) ∧ w'.cell? ⟨w.heap.size, 1, none⟩ = some (.int .i64 (p : Int)) ∧ w'.cell? ⟨w.heap.size, 2, none⟩ = some (.int .i64 M)) 10 11 rfl (by kernel_rfl) ?_
    refine GoE.take (i := 0) (v := ?_) rfl (by decide) (by kernel_rfl) (by kernel_rfl) (by kernel_rfl) (by kernel_rfl) (fun _ _ _ h => h) (by rfl) ?_ (by assumption) ?_
    rotate_left
    · intro w hSw; (try dsimp only at hSw); go_simp; try (with_reducible rfl)
    try simp only [Act.put, List.setIfInBounds_toArray, List.set_cons_zero, List.set_cons_succ]
    refine GoE.take (i := 1) (v := ?_) rfl (by decide) (by kernel_rfl) (by kernel_rfl) (by kernel_rfl) (by kernel_rfl) (fun _ _ _ h => h) (by rfl) ?_ (by assumption) ?_
    rotate_left
    · intro w hSw; (try dsimp only at hSw); go_simp; try (with_reducible rfl)
    try simp only [Act.put, List.setIfInBounds_toArray, List.set_cons_zero, List.set_cons_succ]
    refine GoE.take (i := 2) (v := ?_) rfl (by decide) (by kernel_rfl) (by kernel_rfl) (by kernel_rfl) (by kernel_rfl) (fun _ _ _ h => h) (by rfl) ?_ (by assumption) ?_
    rotate_left
    · intro w hSw; (try dsimp only at hSw); go_simp; try (with_reducible rfl)
    try simp only [Act.put, List.setIfInBounds_toArray, List.set_cons_zero, List.set_cons_succ]
    refine GoE.take (i := 3) (v := ?_) rfl (by decide) (by kernel_rfl) (by kernel_rfl) (by kernel_rfl) (by kernel_rfl) (fun _ _ _ h => h) (by rfl) ?_ (by assumption) ?_
    rotate_left
    · intro w hSw; (try dsimp only at hSw); go_simp; try (with_reducible rfl)
    try simp only [Act.put, List.setIfInBounds_toArray, List.set_cons_zero, List.set_cons_succ]
    refine GoE.take (i := 4) (v := ?_) rfl (by decide) (by kernel_rfl) (by kernel_rfl) (by kernel_rfl) (by kernel_rfl) (fun _ _ _ h => h) (by rfl) ?_ (by assumption) ?_
    rotate_left
    · intro w hSw; (try dsimp only at hSw); go_simp; try (with_reducible rfl)
    try simp only [Act.put, List.setIfInBounds_toArray, List.set_cons_zero, List.set_cons_succ]
    refine GoE.take (i := 5) (v := ?_) rfl (by decide) (by kernel_rfl) (by kernel_rfl) (by kernel_rfl) (by kernel_rfl) (fun _ _ _ h => h) (by rfl) ?_ (by assumption) ?_
    rotate_left
    · intro w hSw; (try dsimp only at hSw); go_simp; try (with_reducible rfl)
    try simp only [Act.put, List.setIfInBounds_toArray, List.set_cons_zero, List.set_cons_succ]
    refine GoE.take (i := 6) (v := ?_) rfl (by decide) (by kernel_rfl) (by kernel_rfl) (by kernel_rfl) (by kernel_rfl) (fun _ _ _ h => h) (by rfl) ?_ (by assumption) ?_
    rotate_left
    · intro w hSw; (try dsimp only at hSw); go_simp; try (with_reducible rfl)
    try simp only [Act.put, List.setIfInBounds_toArray, List.set_cons_zero, List.set_cons_succ]
    refine GoE.take (i := 7) (v := ?_) rfl (by decide) (by kernel_rfl) (by kernel_rfl) (by kernel_rfl) (by kernel_rfl) (fun _ _ _ h => h) (by rfl) ?_ (by assumption) ?_
    rotate_left
    · intro w hSw; (try dsimp only at hSw); go_simp; try (with_reducible rfl)
    try simp only [Act.put, List.setIfInBounds_toArray, List.set_cons_zero, List.set_cons_succ]
    refine GoE.take (i := 8) (v := ?_) rfl (by decide) (by kernel_rfl) (by kernel_rfl) (by kernel_rfl) (by kernel_rfl) (fun _ _ _ h => h) (by rfl) ?_ (by assumption) ?_
    rotate_left
    · intro w hSw; (try dsimp only at hSw); go_simp; try (with_reducible rfl)
    try simp only [Act.put, List.setIfInBounds_toArray, List.set_cons_zero, List.set_cons_succ]
    refine GoE.take (i := 9) (v := ?_) rfl (by decide) (by kernel_rfl) (by kernel_rfl) (by kernel_rfl) (by kernel_rfl) (fun _ _ _ h => h) (by rfl) ?_ (by assumption) ?_
    rotate_left
    · intro w hSw; (try dsimp only at hSw); go_simp; try (with_reducible rfl)
    try simp only [Act.put, List.setIfInBounds_toArray, List.set_cons_zero, List.set_cons_succ]
    refine GoE.one (i := 10) rfl (by kernel_rfl) (fun K hK => ?_)
    go_simp
    refine hK.out _ _ (fun h => absurd rfl h) ?_
    clear hK K
    try simp only [Act.put, List.setIfInBounds_toArray, List.set_cons_zero, List.set_cons_succ]
    refine GoE.done (by kernel_rfl) ?_
    clear S1 fA cu
    have h3 : SatL (wA.setCell ⟨mb, p, none⟩ (.int .u8 (IntKind.u8.wrap M))).drew (SlB 5 (smV mb Z) (m.set p (byteOf (M % 256).toNat)) :: _) := sat_drew.2 hA2.out
    clear hA2
    generalize (wA.setCell ⟨mb, p, none⟩ (.int .u8 (IntKind.u8.wrap M))).drew = wB at *
    have hd := sat_drew.2 h3
    have hA := Sl.set (h3.pull 7 : SatL wB (Sl _ _ _ :: _)) (i := p) hin (.int .u8 (IntKind.u8.wrap M))
    rw [Nat.zero_add, hps.out] at hA
    have fA := Sl.free (hd.pull 7 : SatL wB.drew (Sl _ _ _ :: _)) (0 + p)
    obtain ⟨u2, cu⟩ : ∃ u, wB.drew.cell? ⟨nb, 0 + p, none⟩ = some u := ⟨_, Sl.cell (hd.pull 7 : SatL wB.drew (Sl _ _ _ :: _)) (List.getElem?_eq_getElem hin)⟩
    rw [Nat.zero_add] at cu fA
    have S1 : wB.drew.cell? ⟨bb, 5, none⟩ = some (smV nb Z) ∧ wB.drew.cell? ⟨w.heap.size, 1, none⟩ = some (.int .i64 (p : Int)) ∧ wB.drew.cell? ⟨w.heap.size, 2, none⟩ = some (.int .i64 M) := ⟨(hbc.out _ _ (hd.pull 2)).2.2.2.2.2.1, (hcl.out _ _ (hd.pull 1)).1, (hcl.out _ _ (hd.pull 1)).2⟩
    have hA2 := hid hA
    clear hd hA h3
    go_upto_region 25 with fail
    refine GoE.start (fun w' => w'.cell? ⟨bb, 5, none⟩ = some (smV nb Z) ∧ w'.cell? ⟨w.heap.size, 1, none⟩ = some (.int .i64 (p : Int)) ∧ w'.cell? ⟨w.heap.size, 2, none⟩ = some (.int .i64 M)) 10 11 rfl (by kernel_rfl) ?_
    refine GoE.take (i := 0) (v := ?_) rfl (by decide) (by kernel_rfl) (by kernel_rfl) (by kernel_rfl) (by kernel_rfl) (fun _ _ _ h => h) (by rfl) ?_ (by assumption) ?_
    rotate_left
    · intro w hSw; (try dsimp only at hSw); go_simp; try (with_reducible rfl)
    try simp only [Act.put, List.setIfInBounds_toArray, List.set_cons_zero, List.set_cons_succ]
    refine GoE.take (i := 1) (v := ?_) rfl (by decide) (by kernel_rfl) (by kernel_rfl) (by kernel_rfl) (by kernel_rfl) (fun _ _ _ h => h) (by rfl) ?_ (by assumption) ?_
    rotate_left
    · intro w hSw; (try dsimp only at hSw); go_simp; try (with_reducible rfl)
    try simp only [Act.put, List.setIfInBounds_toArray, List.set_cons_zero, List.set_cons_succ]
    refine GoE.take (i := 2) (v := ?_) rfl (by decide) (by kernel_rfl) (by kernel_rfl) (by kernel_rfl) (by kernel_rfl) (fun _ _ _ h => h) (by rfl) ?_ (by assumption) ?_
    rotate_left
    · intro w hSw; (try dsimp only at hSw); go_simp; try (with_reducible rfl)
    try simp only [Act.put, List.setIfInBounds_toArray, List.set_cons_zero, List.set_cons_succ]
    refine GoE.take (i := 3) (v := ?_) rfl (by decide) (by kernel_rfl) (by kernel_rfl) (by kernel_rfl) (by kernel_rfl) (fun _ _ _ h => h) (by rfl) ?_ (by assumption) ?_
    rotate_left
    · intro w hSw; (try dsimp only at hSw); go_simp; try (with_reducible rfl)
    try simp only [Act.put, List.setIfInBounds_toArray, List.set_cons_zero, List.set_cons_succ]
    refine GoE.take (i := 4) (v := ?_) rfl (by decide) (by kernel_rfl) (by kernel_rfl) (by kernel_rfl) (by kernel_rfl) (fun _ _ _ h => h) (by rfl) ?_ (by assumption) ?_
    rotate_left
    · intro w hSw; (try dsimp only at hSw); go_simp; try (with_reducible rfl)
    try simp only [Act.put, List.setIfInBounds_toArray, List.set_cons_zero, List.set_cons_succ]
    refine GoE.take (i := 5) (v := ?_) rfl (by decide) (by kernel_rfl) (by kernel_rfl) (by kernel_rfl) (by kernel_rfl) (fun _ _ _ h => h) (by rfl) ?_ (by assumption) ?_
    rotate_left
    · intro w hSw; (try dsimp only at hSw); go_simp; try (with_reducible rfl)
    try simp only [Act.put, List.setIfInBounds_toArray, List.set_cons_zero, List.set_cons_succ]
    refine GoE.take (i := 6) (v := ?_) rfl (by decide) (by kernel_rfl) (by kernel_rfl) (by kernel_rfl) (by kernel_rfl) (fun _ _ _ h => h) (by rfl) ?_ (by assumption) ?_
    rotate_left
    · intro w hSw; (try dsimp only at hSw); go_simp; try (with_reducible rfl)
    try simp only [Act.put, List.setIfInBounds_toArray, List.set_cons_zero, List.set_cons_succ]
    refine GoE.take (i := 7) (v := ?_) rfl (by decide) (by kernel_rfl) (by kernel_rfl) (by kernel_rfl) (by kernel_rfl) (fun _ _ _ h => h) (by rfl) ?_ (by assumption) ?_
    rotate_left
    · intro w hSw; (try dsimp only at hSw); go_simp; try (with_reducible rfl)
    try simp only [Act.put, List.setIfInBounds_toArray, List.set_cons_zero, List.set_cons_succ]
    refine GoE.take (i := 8) (v := ?_) rfl (by decide) (by kernel_rfl) (by kernel_rfl) (by kernel_rfl) (by kernel_rfl) (fun _ _ _ h => h) (by rfl) ?_ (by assumption) ?_
    rotate_left
    · intro w hSw; (try dsimp only at hSw); go_simp; try (with_reducible rfl)
    try simp only [Act.put, List.setIfInBounds_toArray, List.set_cons_zero, List.set_cons_succ]
    refine GoE.take (i := 9) (v := ?_) rfl (by decide) (by kernel_rfl) (by kernel_rfl) (by kernel_rfl) (by kernel_rfl) (fun _ _ _ h => h) (by rfl) ?_ (by assumption) ?_
    rotate_left
    · intro w hSw; (try dsimp only at hSw); go_simp; try (with_reducible rfl)
    try simp only [Act.put, List.setIfInBounds_toArray, List.set_cons_zero, List.set_cons_succ]
    refine GoE.one (i := 10) rfl (by kernel_rfl) (fun K hK => ?_)
    go_simp
    refine hK.out _ _ (fun h => absurd rfl h) ?_
    clear hK K
    try simp only [Act.put, List.setIfInBounds_toArray, List.set_cons_zero, List.set_cons_succ]
    refine GoE.done (by kernel_rfl) ?_
    clear S1 fA cu
    have h4 := hid (hA2.out)
    go_wp2
    go_ret
    refine Ret.mk ⟨rfl, d, r, m.set p (byteOf (M % 256).toNat), T, Hpi.out _ _, ⟨by omega, hT2.out.2⟩, sat_BothR.2 ⟨db, vb, xb, yb, mb, nb, tv, ?_⟩⟩
    exact SatL.tail (h4.out.bring [2, 3, 4, 5, 1, 6, 7, 0, 8])
  · by_cases hn0 : 0 ≤ N
    · have hn1 : ¬ N < (Z : Int) := fun h => hin ⟨hn0, h⟩
      have hpz2 : decide (N < (Z : Int)) = false := by simp; omega
      have hpz3 : decide (0 ≤ N) = true := by simp [hn0]
      clear hin
      go_upto_region 23 with fail
      go_quiet (fail)
      have h2 := hid (sat_dn.2 H1.out : SatL ((w.alloc (.cells #[.int .i64 5, .int .i64 N, .int .i64 M, .slice la ln lc] 51)).drewN nq) _)
      clear H1 c0 d4 d5 e1 e2 hpz2 hpz3
      go_wp2
      go_ret
      exact Ret.mk ⟨rfl, d, r, m, T, Hpi0.out, ⟨by omega, hT2.out.2⟩, sat_BothR.2 ⟨db, vb, xb, yb, mb, nb, tv, h2.out.tail⟩⟩
    · have hn1 : N < 0 := by omega
      have hpz3 : decide (0 ≤ N) = false := by simp; omega
      clear hin
      go_upto_region 23 with fail
      go_quiet (fail)
      have h2 := hid (sat_dn.2 H1.out : SatL ((w.alloc (.cells #[.int .i64 5, .int .i64 N, .int .i64 M, .slice la ln lc] 51)).drewN nq) _)
      clear H1 c0 d4 d5 e1 e2 hpz3
      go_wp2
      go_ret
      exact Ret.mk ⟨rfl, d, r, m, T, Hpi0.out, ⟨by omega, hT2.out.2⟩, sat_BothR.2 ⟨db, vb, xb, yb, mb, nb, tv, h2.out.tail⟩⟩
end
end Go.Proofs.Ytnniipeoahpkcaa
