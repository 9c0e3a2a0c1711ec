/- The document's queue: Give. No condition beside the sizes that it names. -/
import Derived.Test.YtnniipeoahpkcaaR3B
namespace Go.Proofs.Ytnniipeoahpkcaa
set_option linter.unusedVariables false
set_option linter.unusedSimpArgs false
open Go.RowKit
section
variable {w : World} {L : List HP} {vb mb o N c : Nat} {r : Ring} {m : List UInt8}
theorem XDevR.cells (h : SatL w (XDevR vb mb o N c r :: L)) : w.cell? ⟨vb, 0, none⟩ = some (.slice (some ⟨mb, o, none⟩) N c) ∧ w.cell? ⟨vb, 1, none⟩ = some (.int .i64 r.base) ∧ w.cell? ⟨vb, 2, none⟩ = some (.int .i64 r.n) ∧ w.cell? ⟨vb, 3, none⟩ = some (.int .i64 r.off) ∧ w.cell? ⟨vb, 4, none⟩ = some (.int .i64 r.use) :=
  ⟨SatL.cell h (i := 0) rfl, SatL.cell h (i := 1) rfl, SatL.cell h (i := 2) rfl, SatL.cell h (i := 3) rfl, SatL.cell h (i := 4) rfl⟩
set_option maxRecDepth 100000 in
theorem refgive_no {h l : Int} (hr : (-9223372036854775808 ≤ h ∧ h ≤ 9223372036854775807) ∧ -9223372036854775808 ≤ l ∧ l ≤ 9223372036854775807) (hb : h < 0 ∨ (r.n : Int) ≤ h ∨ l < 0 ∨ 4294967295 < l) (hs : SatL w (XDevR vb mb o N c r :: L)) :
    Calls Try.prog 35 #[.pointer (some ⟨vb, 0, none⟩), .int .i64 h, .int .i64 l] w (Ret fun v w' => v = .int .i64 1 ∧ w = w') := by
  have c1 := (XDevR.cells hs).2.2.1
  clear hs
  by_cases h1 : h < 0
  · clear hb
    go_enter Try.func35, Try.ntmps35
    go_wp2
    go_ret
    exact Ret.mk ⟨rfl, rfl⟩
  · by_cases h2 : (r.n : Int) ≤ h
    · clear hb
      go_enter Try.func35, Try.ntmps35
      go_wp2
      go_ret
      exact Ret.mk ⟨rfl, rfl⟩
    · by_cases h3 : l < 0
      · clear hb
        go_enter Try.func35, Try.ntmps35
        go_wp2
        go_ret
        exact Ret.mk ⟨rfl, rfl⟩
      · have h4 : 4294967296 ≤ l := by omega
        clear hb
        go_enter Try.func35, Try.ntmps35
        go_wp2
        go_ret
        exact Ret.mk ⟨rfl, rfl⟩
set_option maxRecDepth 100000 in
set_option maxHeartbeats 2000000 in
theorem refgive_yes {h l : Nat} (ok : RgOk r m.length) (hm : m.length ≤ 1000000) (hb : h < r.n ∧ l ≤ 4294967295) (hs : SatL w (XDevR vb mb o N c r :: SlB 5 (.slice (some ⟨mb, o, none⟩) N c) m :: L)) :
    Calls Try.prog 35 #[.pointer (some ⟨vb, 0, none⟩), .int .i64 h, .int .i64 l] w (Ret fun v w' => v = .int .i64 0 ∧ SatL w' (XDevR vb mb o N c r.stepU :: SlB 5 (.slice (some ⟨mb, o, none⟩) N c) (r.giveM m h l) :: L)) := by
  have hn := pow2_le ok.pw
  have hua := usedAt_le r (by omega)
  have hq8 : qs r.n = 8 + 26 * r.n := rfl
  have hf := ok.fit
  obtain ⟨c0, c1, c2, c3, c4⟩ := XDevR.cells hs
  obtain ⟨q, hq⟩ : ∃ q, q = r.use % r.n := ⟨_, rfl⟩
  have hqn : q < r.n := by rw [hq]; exact Nat.mod_lt _ (by omega)
  have e1 : Int.tmod (r.use : Int) (r.n : Int) = (q : Int) := by rw [Int.tmod_eq_emod_of_nonneg (by omega), hq]; rfl
  have e2 : (r.use : Int) % (r.n : Int) = (q : Int) := by rw [hq]; rfl
  have hnz : ¬ (r.n : Int) = 0 := by omega
  have hnz0 : ¬ r.n = 0 := by omega
  have hU : r.usedAt = 18 * r.n + 4 + 4 + 8 * q := by unfold Ring.usedAt; rw [← hq]
  have hgm : r.giveM m h l = lset (lset (lset m (r.base + r.usedAt) 4 h) (r.base + r.usedAt + 4) 4 l) (r.base + (18 * r.n + 4) + 2) 2 ((r.use + 1) % 65536) := rfl
  obtain ⟨U, hUd⟩ : ∃ U, U = r.base + r.usedAt := ⟨_, rfl⟩
  obtain ⟨K, hKd⟩ : ∃ K, K = r.base + (18 * r.n + 4) := ⟨_, rfl⟩
  rw [← hUd, ← hKd] at hgm
  have hro : (r.use + 1) % 65536 < 65536 := Nat.mod_lt _ (by omega)
  have hub := ok.ub
  have e3 : Int.tmod ((r.use : Int) + 1) 65536 = (((r.use + 1) % 65536 : Nat) : Int) := by rw [Int.tmod_eq_emod_of_nonneg (by omega)]; omega
  have e4 : ((r.use : Int) + 1) % 65536 = (((r.use + 1) % 65536 : Nat) : Int) := by omega
  have l1 : (lset m U 4 h).length = m.length := lset_len (by omega)
  have l2 : (lset (lset m U 4 h) (U + 4) 4 l).length = m.length := by rw [lset_len (by omega), l1]
  have hs1 := hid (fun (w' : World) (X : List HP) (h' : SatL w' (SlB 5 (.slice (some ⟨mb, o, none⟩) N c) m :: X)) => refset_ok (a := U) (k := 4) (v := h) (by omega) (by omega) (by omega) hm h')
  have hs2 := hid (fun (w' : World) (X : List HP) (h' : SatL w' (SlB 5 (.slice (some ⟨mb, o, none⟩) N c) (lset m U 4 h) :: X)) => refset_ok (a := U + 4) (k := 4) (v := l) (by omega) (by omega) (by omega) (by omega) h')
  have hs3 := hid (fun (w' : World) (X : List HP) (h' : SatL w' (SlB 5 (.slice (some ⟨mb, o, none⟩) N c) (lset (lset m U 4 h) (U + 4) 4 l) :: X)) => refset_ok (a := K + 2) (k := 2) (v := (r.use + 1) % 65536) (by omega) (by omega) (by omega) (by omega) h')
  rw [← hgm] at hs3
  have hset : Hid (∀ (w' : World) (X : List HP), SatL w' (XDevR vb mb o N c r :: X) → SatL (w'.setCell ⟨vb, 4, none⟩ (.int .i64 ((r.use + 1) % 65536 : Nat))) (XDevR vb mb o N c r.stepU :: X)) := hid (fun w' X h => SatL.set h (i := 4) (.int .i64 ((r.use + 1) % 65536 : Nat)))
  have hcl := hid (fun (w' : World) (X : List HP) (h : SatL w' (XDevR vb mb o N c r :: X)) => (⟨XDevR.cells h, SatL.free h 4⟩ : _ ∧ _))
  have hcl2 : Hid (∀ (w' : World) (X : List HP), SatL w' (XDevR vb mb o N c r.stepU :: X) → w'.cell? ⟨vb, 0, none⟩ = some (.slice (some ⟨mb, o, none⟩) N c) ∧ w'.cell? ⟨vb, 4, none⟩ = some (.int .i64 ((r.use + 1) % 65536 : Nat))) := hid (fun w' X h => ⟨(XDevR.cells h).1, (XDevR.cells h).2.2.2.2⟩)
  simp only [show ((4 : Nat) : Int) = 4 from rfl, show ((U + 4 : Nat) : Int) = (U : Int) + 4 by omega] at hs1 hs2
  simp only [show ((2 : Nat) : Int) = 2 from rfl, show ((K + 2 : Nat) : Int) = (K : Int) + 2 by omega] at hs3
  have hUb : U ≤ 1010000 := by omega
  have hKb : K ≤ 1010000 := by omega
  have hbz : (r.base : Int) ≤ 1000000 := by omega
  have w1 : IntKind.i64.wrap (18 * (r.n : Int)) = 18 * (r.n : Int) := IntWalk.i64_in _ (by omega)
  have w2 : IntKind.i64.wrap ((r.base : Int) + 18 * (r.n : Int)) = (r.base : Int) + 18 * (r.n : Int) := IntWalk.i64_in _ (by omega)
  have w3 : IntKind.i64.wrap ((r.base : Int) + 18 * (r.n : Int) + 4) = (K : Int) := by rw [show (r.base : Int) + 18 * (r.n : Int) + 4 = (K : Int) by omega]; exact IntWalk.i64_in _ (by omega)
  have w4 : IntKind.i64.wrap (q : Int) = (q : Int) := IntWalk.i64_in _ (by omega)
  have w5 : IntKind.i64.wrap (8 * (q : Int)) = 8 * (q : Int) := IntWalk.i64_in _ (by omega)
  have w6 : IntKind.i64.wrap ((K : Int) + 4) = (K : Int) + 4 := IntWalk.i64_in _ (by omega)
  have w7 : IntKind.i64.wrap ((K : Int) + 4 + 8 * (q : Int)) = (U : Int) := by rw [show (K : Int) + 4 + 8 * (q : Int) = (U : Int) by omega]; exact IntWalk.i64_in _ (by omega)
  have hh1 : (h : Int) < r.n := by omega
  have hh2 : ¬ (r.n : Int) ≤ h := by omega
  have hh3 : ¬ r.n ≤ h := by omega
  have hlz : (l : Int) ≤ 4294967295 := by omega
  have hl1 : ¬ (4294967296 : Int) ≤ l := by omega
  have hnz2 : (r.n : Int) ≤ 256 := by omega
  have hubz : (r.use : Int) < 65536 := by omega
  clear hgm l1 l2 hf ok hua hU hq hUd hKd hq8
  generalize r.giveM m h l = m3 at *
  generalize lset (lset m U 4 h) (U + 4) 4 l = m2 at *
  generalize lset m U 4 h = m1 at *
  generalize (r.use + 1) % 65536 = ro at *
  have hroz : (ro : Int) < 65536 := by omega
  have H0 := hid hs
  have E34 := hid (And.intro e3 e4)
  have HR := hid (And.intro hubz hroz)
  have hh0 : decide ((h : Int) < 0) = false := by simp
  have hl0 : decide ((l : Int) < 0) = false := by simp
  clear hs hn hb hub e3 e4 hubz hroz hm hro
  go_enter Try.func35, Try.ntmps35
  go_wp2
  go_quiet (fail)
  have H1 := hid (sat_dn.2 H0.out : SatL (w.drewN nq) _)
  clear H0 c0 c1 c2 c3 c4 w1 w2 w3
  generalize w.drewN nq = wA at *
  obtain ⟨⟨c0, c1, c2, c3, c4⟩, _⟩ := hcl.out _ _ H1.out
  go_wp2
  go_quiet (fail)
  have H2 := hid (sat_dn.2 H1.out : SatL (wA.drewN nq) _)
  clear H1 c0 c1 c2 c3 c4 w4 w5 w6 w7 e1 e2 hqn
  generalize wA.drewN nq = wB at *
  obtain ⟨⟨c0, _⟩, _⟩ := hcl.out _ _ H2.out
  have k1 := hs1.out _ _ (SatL.swap H2.out)
  obtain ⟨e3, e4⟩ := E34.out
  obtain ⟨hubz, hroz⟩ := HR.out
  clear E34 HR
  go_upto_region 8 with (first
    | (go_at_call 42; (with_reducible refine k1.mono ?_); rintro e w2 ⟨v, rfl, h2⟩; have k2 := hs2.out _ _ h2; have cA := (hcl.out _ _ (SatL.swap h2)).1.1)
    | (go_at_call 42; (with_reducible refine k2.mono ?_); rintro e w3 ⟨v, rfl, h3⟩; obtain ⟨⟨cB0, _, _, _, cB4⟩, fB⟩ := hcl.out _ _ (SatL.swap h3); have h4 := hset.out _ _ (SatL.swap h3)))
  have h5 := sat_drew.2 h4
  have S5 := hcl2.out _ _ h5
  have k3 := hs3.out _ _ (SatL.swap h5)
  have w8 : IntKind.i64.wrap ((K : Int) + 2) = (K : Int) + 2 := IntWalk.i64_in _ (by omega)
  refine GoE.start (fun w' => w'.cell? ⟨vb, 0, none⟩ = some (.slice (some ⟨mb, o, none⟩) N c) ∧ w'.cell? ⟨vb, 4, none⟩ = some (.int .i64 (ro : Nat))) 10 11 rfl (by kernel_rfl) ?_
  refine GoE.take (i := 0) (v := ?_) rfl (by decide) (by kernel_rfl) (by kernel_rfl) (by kernel_rfl) (by kernel_rfl) (fun _ _ _ h => h) (by rfl) ?_ (by assumption) ?_
  rotate_left
  · intro w hSw; (try dsimp only at hSw); go_simp; try (with_reducible rfl)
  try simp only [Act.put, List.setIfInBounds_toArray, List.set_cons_zero, List.set_cons_succ]
  refine GoE.take (i := 1) (v := ?_) rfl (by decide) (by kernel_rfl) (by kernel_rfl) (by kernel_rfl) (by kernel_rfl) (fun _ _ _ h => h) (by rfl) ?_ (by assumption) ?_
  rotate_left
  · intro w hSw; (try dsimp only at hSw); go_simp; try (with_reducible rfl)
  try simp only [Act.put, List.setIfInBounds_toArray, List.set_cons_zero, List.set_cons_succ]
  refine GoE.take (i := 2) (v := ?_) rfl (by decide) (by kernel_rfl) (by kernel_rfl) (by kernel_rfl) (by kernel_rfl) (fun _ _ _ h => h) (by rfl) ?_ (by assumption) ?_
  rotate_left
  · intro w hSw; (try dsimp only at hSw); go_simp; try (with_reducible rfl)
  try simp only [Act.put, List.setIfInBounds_toArray, List.set_cons_zero, List.set_cons_succ]
  refine GoE.take (i := 3) (v := ?_) rfl (by decide) (by kernel_rfl) (by kernel_rfl) (by kernel_rfl) (by kernel_rfl) (fun _ _ _ h => h) (by rfl) ?_ (by assumption) ?_
  rotate_left
  · intro w hSw; (try dsimp only at hSw); go_simp; try (with_reducible rfl)
  try simp only [Act.put, List.setIfInBounds_toArray, List.set_cons_zero, List.set_cons_succ]
  refine GoE.take (i := 4) (v := ?_) rfl (by decide) (by kernel_rfl) (by kernel_rfl) (by kernel_rfl) (by kernel_rfl) (fun _ _ _ h => h) (by rfl) ?_ (by assumption) ?_
  rotate_left
  · intro w hSw; (try dsimp only at hSw); go_simp; try (with_reducible rfl)
  try simp only [Act.put, List.setIfInBounds_toArray, List.set_cons_zero, List.set_cons_succ]
  refine GoE.take (i := 5) (v := ?_) rfl (by decide) (by kernel_rfl) (by kernel_rfl) (by kernel_rfl) (by kernel_rfl) (fun _ _ _ h => h) (by rfl) ?_ (by assumption) ?_
  rotate_left
  · intro w hSw; (try dsimp only at hSw); go_simp; try (with_reducible rfl)
  try simp only [Act.put, List.setIfInBounds_toArray, List.set_cons_zero, List.set_cons_succ]
  refine GoE.take (i := 6) (v := ?_) rfl (by decide) (by kernel_rfl) (by kernel_rfl) (by kernel_rfl) (by kernel_rfl) (fun _ _ _ h => h) (by rfl) ?_ (by assumption) ?_
  rotate_left
  · intro w hSw; (try dsimp only at hSw); go_simp; try (with_reducible rfl)
  try simp only [Act.put, List.setIfInBounds_toArray, List.set_cons_zero, List.set_cons_succ]
  refine GoE.take (i := 7) (v := ?_) rfl (by decide) (by kernel_rfl) (by kernel_rfl) (by kernel_rfl) (by kernel_rfl) (fun _ _ _ h => h) (by rfl) ?_ (by assumption) ?_
  rotate_left
  · intro w hSw; (try dsimp only at hSw); go_simp; try (with_reducible rfl)
  try simp only [Act.put, List.setIfInBounds_toArray, List.set_cons_zero, List.set_cons_succ]
  refine GoE.take (i := 8) (v := ?_) rfl (by decide) (by kernel_rfl) (by kernel_rfl) (by kernel_rfl) (by kernel_rfl) (fun _ _ _ h => h) (by rfl) ?_ (by assumption) ?_
  rotate_left
  · intro w hSw; (try dsimp only at hSw); go_simp; try (with_reducible rfl)
  try simp only [Act.put, List.setIfInBounds_toArray, List.set_cons_zero, List.set_cons_succ]
  refine GoE.take (i := 9) (v := ?_) rfl (by decide) (by kernel_rfl) (by kernel_rfl) (by kernel_rfl) (by kernel_rfl) (fun _ _ _ h => h) (by rfl) ?_ (by assumption) ?_
  rotate_left
  · intro w hSw; (try dsimp only at hSw); go_simp; try (with_reducible rfl)
  try simp only [Act.put, List.setIfInBounds_toArray, List.set_cons_zero, List.set_cons_succ]
  refine GoE.one (i := 10) rfl (by kernel_rfl) (fun K hK => ?_)
  go_simp
  go_at_call 42
  (with_reducible refine (k3).mono ?_)
  rintro e w6 ⟨v, rfl, h6⟩
  go_wp2_with fail
  refine hK.out _ _ (fun h => absurd rfl h) ?_
  clear hK K
  try simp only [Act.put, List.setIfInBounds_toArray, List.set_cons_zero, List.set_cons_succ]
  refine GoE.done (by kernel_rfl) ?_
  go_wp2
  go_ret
  exact Ret.mk ⟨rfl, SatL.swap h6⟩
theorem refgive_ok {h l : Int} (ok : RgOk r m.length) (hm : m.length ≤ 1000000) (hr : (-9223372036854775808 ≤ h ∧ h ≤ 9223372036854775807) ∧ -9223372036854775808 ≤ l ∧ l ≤ 9223372036854775807) (hs : SatL w (XDevR vb mb o N c r :: SlB 5 (.slice (some ⟨mb, o, none⟩) N c) m :: L)) :
    Calls Try.prog 35 #[.pointer (some ⟨vb, 0, none⟩), .int .i64 h, .int .i64 l] w (Ret fun v w' => v = .int .i64 (r.give m h l).e ∧ SatL w' (XDevR vb mb o N c (r.give m h l).r :: SlB 5 (.slice (some ⟨mb, o, none⟩) N c) (r.give m h l).m :: L)) := by
  unfold Ring.give
  split
  · rename_i hb
    refine (refgive_no hr hb hs).mono ?_
    rintro e w2 ⟨v, rfl, rfl, rfl⟩
    exact Ret.mk ⟨rfl, hs⟩
  · rename_i hb
    obtain ⟨a, rfl⟩ := Int.eq_ofNat_of_zero_le (show 0 ≤ h by omega)
    obtain ⟨b, rfl⟩ := Int.eq_ofNat_of_zero_le (show 0 ≤ l by omega)
    exact refgive_yes ok hm (by omega) hs
end
end Go.Proofs.Ytnniipeoahpkcaa
