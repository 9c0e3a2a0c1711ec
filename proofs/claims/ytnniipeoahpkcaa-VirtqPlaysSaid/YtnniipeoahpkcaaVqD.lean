/- Give: one is given back. No condition beside the sizes that it names. -/
import Derived.Test.YtnniipeoahpkcaaVqC
namespace Go.Proofs.Ytnniipeoahpkcaa
set_option linter.unusedVariables false
set_option linter.unusedSimpArgs false
open Go.RowKit
structure Gave where
  e : Int
  m : List UInt8
  r : Ring
/-- the place of the ring's entry that comes next -/
def Ring.usedAt (r : Ring) : Nat := 18 * r.n + 4 + 4 + 8 * (r.use % r.n)
def Ring.giveM (r : Ring) (m : List UInt8) (h l : Nat) : List UInt8 :=
  lset (lset (lset m (r.base + r.usedAt) 4 h) (r.base + (r.usedAt + 4)) 4 l) (r.base + (18 * r.n + 4 + 2)) 2 ((r.use + 1) % 65536)
def Ring.give (r : Ring) (m : List UInt8) (h l : Int) : Gave :=
  if h < 0 ∨ (r.n : Int) ≤ h ∨ l < 0 ∨ 4294967295 < l then ⟨1, m, r⟩ else ⟨0, r.giveM m h.toNat l.toNat, r.stepU⟩
theorem usedAt_le (r : Ring) (hn : 0 < r.n) : r.usedAt + 8 ≤ qs r.n := by
  have := Nat.mod_lt r.use hn
  unfold Ring.usedAt qs; omega
theorem giveM_len {r : Ring} {m : List UInt8} (ok : RgOk r m.length) (h l : Nat) : (r.giveM m h l).length = m.length := by
  have hn := pow2_le ok.pw
  have hu := usedAt_le r (by omega)
  have hf := ok.fit
  have hq : qs r.n = 8 + 26 * r.n := rfl
  unfold Ring.giveM
  rw [lset_len, lset_len, lset_len]
  · omega
  · rw [lset_len]; omega
    omega
  · rw [lset_len, lset_len]; omega
    omega
    rw [lset_len]; omega
    omega
section
variable {w : World} {L : List HP} {vb mb o N c : Nat} {r : Ring} {m : List UInt8}
set_option maxRecDepth 100000 in
theorem give_no {h l : Int} (hr : (-9223372036854775808 ≤ h ∧ h ≤ 9223372036854775807) ∧ -9223372036854775808 ≤ l ∧ l ≤ 9223372036854775807) (hb : h < 0 ∨ (r.n : Int) ≤ h ∨ l < 0 ∨ 4294967295 < l) (hs : SatL w (DevR vb mb o r :: L)) :
    Calls Try.prog 14 #[.pointer (some ⟨vb, 0, none⟩), .int .i64 h, .int .i64 l] w (Ret fun v w' => v = .int .i64 1 ∧ w = w') := by
  have c1 := (DevR.cells hs).2.1
  clear hs
  by_cases h1 : h < 0
  · clear hb
    go_enter Try.func14, Try.ntmps14
    go_wp2
    go_ret
    exact Ret.mk ⟨rfl, rfl⟩
  · by_cases h2 : (r.n : Int) ≤ h
    · clear hb
      go_enter Try.func14, Try.ntmps14
      go_wp2
      go_ret
      exact Ret.mk ⟨rfl, rfl⟩
    · by_cases h3 : l < 0
      · clear hb
        go_enter Try.func14, Try.ntmps14
        go_wp2
        go_ret
        exact Ret.mk ⟨rfl, rfl⟩
      · have h4 : 4294967295 < l := by omega
        clear hb
        go_enter Try.func14, Try.ntmps14
        go_wp2
        go_ret
        exact Ret.mk ⟨rfl, rfl⟩
theorem vset_at {base n a k v z : Nat} (pw : pow2 n = true) (hz : m.length = z) (fit : base + qs n ≤ z) (hk : sizeOk k) (hv : v < 256 ^ k) (ha : a + k ≤ qs n) (h : SatL w (SlB 5 (.slice (some ⟨mb, o, none⟩) N c) m :: L)) (g : Gives L (fun w' => w'.cell? ⟨vb, 0, none⟩ = some (.slice (some ⟨mb, o + base, none⟩) (qs n) (qs n)))) :
    Calls Try.prog 25 #[.pointer (some ⟨vb, 0, none⟩), .int .i64 a, .int .i64 k, .int .u64 v] w (Ret fun u w' => SatL w' (SlB 5 (.slice (some ⟨mb, o, none⟩) N c) (lset m (base + a) k v) :: L)) := by
  have hn := pow2_le pw
  exact vset_ok hk hv ha (by rw [hz]; exact fit) (by show 8 + 26 * n ≤ 1000000; omega) h g
set_option maxRecDepth 100000 in
set_option maxHeartbeats 2000000 in
theorem give_yes {h l : Nat} (ok : RgOk r m.length) (hb : h < r.n ∧ l ≤ 4294967295) (hs : SatL w (DevR vb mb o r :: SlB 5 (.slice (some ⟨mb, o, none⟩) N c) m :: L)) :
    Calls Try.prog 14 #[.pointer (some ⟨vb, 0, none⟩), .int .i64 h, .int .i64 l] w (Ret fun v w' => v = .int .i64 0 ∧ SatL w' (DevR vb mb o r.stepU :: SlB 5 (.slice (some ⟨mb, o, none⟩) N c) (r.giveM m h l) :: L)) := by
  have hn := pow2_le ok.pw
  have hua := usedAt_le r (by omega)
  obtain ⟨c0, c1, c2, c3⟩ := DevR.cells hs
  have q1 := fun (k : Nat) => quietR (n := k) (vback_ok (w := w.drewN k) (rb := vb) (n := r.n) hn.2 c1)
  obtain ⟨q, hq⟩ : ∃ q, q = r.use % r.n := ⟨_, rfl⟩
  have hqn : q < r.n := by rw [hq]; exact Nat.mod_lt _ (by omega)
  have e1 : Int.tmod (r.use : Int) (r.n : Int) = (q : Int) := by rw [Int.tmod_eq_emod_of_nonneg (by omega), hq]; rfl
  have e2 : (r.use : Int) % (r.n : Int) = (q : Int) := by rw [hq]; rfl
  have hnz : ¬ (r.n : Int) = 0 := by omega
  have hU : r.usedAt = 18 * r.n + 4 + 4 + 8 * q := by unfold Ring.usedAt; rw [← hq]
  have gives : ∀ (r' : Ring) (X : List HP), Gives (DevR vb mb o r' :: X) (fun w' => w'.cell? ⟨vb, 0, none⟩ = some (.slice (some ⟨mb, o + r'.base, none⟩) (qs r'.n) (qs r'.n))) := fun r' X w' h => (DevR.cells h).1
  have hf := ok.fit
  have l1 : (lset m (r.base + r.usedAt) 4 h).length = m.length := lset_len (by omega)
  have l2 : (lset (lset m (r.base + r.usedAt) 4 h) (r.base + (r.usedAt + 4)) 4 l).length = m.length := by rw [lset_len (by rw [l1]; omega), l1]
  have hs1 := hid (fun (w' : World) (h' : SatL w' (SlB 5 (.slice (some ⟨mb, o, none⟩) N c) m :: DevR vb mb o r :: L)) => vset_at (base := r.base) (n := r.n) (a := r.usedAt) (k := 4) (v := h) ok.pw rfl ok.fit (.inr (.inr (.inl rfl))) (by omega) (by omega) h' (gives r L))
  have hs2 := hid (fun (w' : World) (h' : SatL w' (SlB 5 (.slice (some ⟨mb, o, none⟩) N c) (lset m (r.base + r.usedAt) 4 h) :: DevR vb mb o r :: L)) => vset_at (base := r.base) (n := r.n) (a := r.usedAt + 4) (k := 4) (v := l) ok.pw l1 ok.fit (.inr (.inr (.inl rfl))) (by omega) (by omega) h' (gives r L))
  have hs3 := hid (fun (w' : World) (h' : SatL w' (SlB 5 (.slice (some ⟨mb, o, none⟩) N c) (lset (lset m (r.base + r.usedAt) 4 h) (r.base + (r.usedAt + 4)) 4 l) :: DevR vb mb o r.stepU :: L)) => vset_at (base := r.base) (n := r.n) (a := 18 * r.n + 4 + 2) (k := 2) (v := (r.use + 1) % 65536) ok.pw l2 ok.fit (.inr (.inl rfl)) (Nat.mod_lt _ (by omega)) (by show _ ≤ 8 + 26 * r.n; omega) h' (gives r.stepU L))
  have hset : Hid (∀ (w' : World) (X : List HP), SatL w' (DevR vb mb o r :: X) → SatL (w'.setCell ⟨vb, 3, none⟩ (.int .i64 ((r.use + 1) % 65536 : Nat))) (DevR vb mb o r.stepU :: X)) := hid (fun w' X h => h.set (i := 3) (.int .i64 ((r.use + 1) % 65536 : Nat)))
  have hfr := hid (fun (w' : World) (X : List HP) (h : SatL w' (DevR vb mb o r :: X)) => h.free 3)
  have hcl := hid (fun (w' : World) (X : List HP) (h : SatL w' (DevR vb mb o r :: X)) => DevR.cells h)
  have hcl2 : Hid (∀ (w' : World) (X : List HP), SatL w' (DevR vb mb o r.stepU :: X) → w'.cell? ⟨vb, 0, none⟩ = some (.slice (some ⟨mb, o + r.base, none⟩) (qs r.n) (qs r.n)) ∧ w'.cell? ⟨vb, 1, none⟩ = some (.int .i64 r.n) ∧ w'.cell? ⟨vb, 2, none⟩ = some (.int .i64 r.off) ∧ w'.cell? ⟨vb, 3, none⟩ = some (.int .i64 ((r.use + 1) % 65536 : Nat))) := hid (fun w' X h => DevR.cells h)
  have hgm : r.giveM m h l = lset (lset (lset m (r.base + r.usedAt) 4 h) (r.base + (r.usedAt + 4)) 4 l) (r.base + (18 * r.n + 4 + 2)) 2 ((r.use + 1) % 65536) := rfl
  have hnx := hid (vnext_ok ok.ub)
  rw [← hgm] at hs3
  have hbk := hid (fun (w' : World) (X : List HP) (h : SatL w' (DevR vb mb o r.stepU :: X)) => vback_ok (w := w') (rb := vb) (n := r.n) hn.2 (DevR.cells h).2.1)
  simp only [show ((r.usedAt + 4 : Nat) : Int) = (r.usedAt : Int) + 4 by omega, show ((4 : Nat) : Int) = 4 from rfl] at hs1 hs2
  simp only [show ((18 * r.n + 4 + 2 : Nat) : Int) = ((18 * r.n + 4 : Nat) : Int) + 2 by omega, show ((2 : Nat) : Int) = 2 from rfl] at hs3
  have hub := ok.ub
  have hUi : ((18 * r.n + 4 : Nat) : Int) + 4 + 8 * (q : Int) = (r.usedAt : Int) := by rw [hU]; omega
  have hU2 : r.usedAt ≤ 10000 := by have : qs r.n = 8 + 26 * r.n := rfl; omega
  clear hgm l1 l2 hf gives ok hua hU hq
  generalize r.giveM m h l = m3 at *
  generalize r.usedAt = U at *
  generalize lset (lset m (r.base + U) 4 h) (r.base + (U + 4)) 4 l = m2 at *
  generalize lset m (r.base + U) 4 h = m1 at *
  have hkb : 18 * r.n + 4 ≤ 5000 := by omega
  generalize 18 * r.n + 4 = K at *
  have w1 : IntKind.i64.wrap ((K : Int) + 4) = (K : Int) + 4 := IntWalk.i64_in _ (by omega)
  have w2 : IntKind.i64.wrap (8 * (q : Int)) = 8 * (q : Int) := IntWalk.i64_in _ (by omega)
  have w3 : IntKind.i64.wrap ((K : Int) + 4 + 8 * (q : Int)) = (U : Int) := by rw [hUi]; exact IntWalk.i64_in _ (by omega)
  have w4 : IntKind.i64.wrap (q : Int) = (q : Int) := IntWalk.i64_in _ (by omega)
  have hh1 : (h : Int) < r.n := by omega
  have hh2 : ¬ (r.n : Int) ≤ h := by omega
  have hh0 : decide ((h : Int) < 0) = false := by simp
  have hl0 : decide ((l : Int) < 0) = false := by simp
  have hlz : (l : Int) ≤ 4294967295 := by omega
  have hh3 : ¬ r.n ≤ h := by omega
  have hl1 : ¬ (4294967295 : Int) < l := by omega
  have hnz2 : (r.n : Int) ≤ 256 := by omega
  have hubz : (r.use : Int) < 65536 := by omega
  have hro : (r.use + 1) % 65536 < 65536 := Nat.mod_lt _ (by omega)
  generalize (r.use + 1) % 65536 = ro at *
  have hroz : (ro : Int) < 65536 := by omega
  have H0 := hid hs
  have Hn := hid hn
  have Hub := hid hub
  clear hs hn hb hub hUi
  go_enter Try.func14, Try.ntmps14
  go_wp2
  go_quiet (first | (go_at_call 29; (with_reducible exact q1 _)))
  have H1 := hid (sat_dn.2 H0.out : SatL (w.drewN nq) _)
  clear H0 q1 c0 c1 c2 c3 w1 w2 w3 w4 e1 e2 hqn
  generalize w.drewN nq = wA at *
  have k1 := hs1.out _ (SatL.swap H1.out)
  have wU : IntKind.i64.wrap ((U : Int) + 4) = (U : Int) + 4 := IntWalk.i64_in _ (by omega)
  have hUz : (U : Int) ≤ 10000 := by omega
  go_upto_region 7 with (first
    | (go_at_call 25; (with_reducible refine k1.mono ?_); rintro e w2 ⟨v, rfl, h2⟩; have k2 := hs2.out _ h2)
    | (go_at_call 25; (with_reducible refine k2.mono ?_); rintro e w3 ⟨v, rfl, h3⟩; obtain ⟨d0, d1, d2, d3⟩ := hcl.out _ _ h3.swap; have d4 := hfr.out _ _ h3.swap; have k3 := hnx.out w3)
    | (go_at_call 27; (with_reducible refine k3.mono ?_); rintro e w4 ⟨v, rfl, rfl, rfl⟩))
  have h4 := sat_drew.2 (hset.out _ _ h3.swap)
  have k4 := hbk.out _ _ h4
  have k5 := hs3.out _ h4.swap
  have S4 := hcl2.out _ _ h4
  have w5 : IntKind.i64.wrap ((K : Int) + 2) = (K : Int) + 2 := IntWalk.i64_in _ (by omega)
  have w6 : IntKind.u64.wrap (ro : Int) = (ro : Int) := u64_in _ (by omega)
  refine GoE.start (fun w' => w'.cell? ⟨vb, 0, none⟩ = some (.slice (some ⟨mb, o + r.base, none⟩) (qs r.n) (qs r.n)) ∧ w'.cell? ⟨vb, 1, none⟩ = some (.int .i64 r.n) ∧ w'.cell? ⟨vb, 2, none⟩ = some (.int .i64 r.off) ∧ w'.cell? ⟨vb, 3, none⟩ = some (.int .i64 ro)) 14 15 rfl (by kernel_rfl) ?_
  refine GoE.take (i := 0) (v := ?_) rfl (by decide) (by kernel_rfl) (by kernel_rfl) (by kernel_rfl) (by kernel_rfl) (fun _ _ _ h => h) (by rfl) ?_ (by assumption) ?_
  rotate_left
  · intro w hSw; (try dsimp only at hSw); go_simp; try (with_reducible rfl)
  try simp only [Act.put, List.setIfInBounds_toArray, List.set_cons_zero, List.set_cons_succ]
  refine GoE.take (i := 1) (v := ?_) rfl (by decide) (by kernel_rfl) (by kernel_rfl) (by kernel_rfl) (by kernel_rfl) (fun _ _ _ h => h) (by rfl) ?_ (by assumption) ?_
  rotate_left
  · intro w hSw; (try dsimp only at hSw); go_simp; try (with_reducible rfl)
  try simp only [Act.put, List.setIfInBounds_toArray, List.set_cons_zero, List.set_cons_succ]
  refine GoE.take (i := 2) (v := ?_) rfl (by decide) (by kernel_rfl) (by kernel_rfl) (by kernel_rfl) (by kernel_rfl) (fun _ _ _ h => h) (by rfl) ?_ (by assumption) ?_
  rotate_left
  · intro w hSw; (try dsimp only at hSw); go_simp; try (with_reducible rfl)
  try simp only [Act.put, List.setIfInBounds_toArray, List.set_cons_zero, List.set_cons_succ]
  refine GoE.take (i := 3) (v := ?_) rfl (by decide) (by kernel_rfl) (by kernel_rfl) (by kernel_rfl) (by kernel_rfl) (fun _ _ _ h => h) (by rfl) ?_ (by assumption) ?_
  rotate_left
  · intro w hSw; (try dsimp only at hSw); go_simp; try (with_reducible rfl)
  try simp only [Act.put, List.setIfInBounds_toArray, List.set_cons_zero, List.set_cons_succ]
  refine GoE.take (i := 4) (v := ?_) rfl (by decide) (by kernel_rfl) (by kernel_rfl) (by kernel_rfl) (by kernel_rfl) (fun _ _ _ h => h) (by rfl) ?_ (by assumption) ?_
  rotate_left
  · intro w hSw; (try dsimp only at hSw); go_simp; try (with_reducible rfl)
  try simp only [Act.put, List.setIfInBounds_toArray, List.set_cons_zero, List.set_cons_succ]
  refine GoE.take (i := 5) (v := ?_) rfl (by decide) (by kernel_rfl) (by kernel_rfl) (by kernel_rfl) (by kernel_rfl) (fun _ _ _ h => h) (by rfl) ?_ (by assumption) ?_
  rotate_left
  · intro w hSw; (try dsimp only at hSw); go_simp; try (with_reducible rfl)
  try simp only [Act.put, List.setIfInBounds_toArray, List.set_cons_zero, List.set_cons_succ]
  refine GoE.take (i := 8) (v := ?_) rfl (by decide) (by kernel_rfl) (by kernel_rfl) (by kernel_rfl) (by kernel_rfl) (fun _ _ _ h => h) (by rfl) ?_ (by assumption) ?_
  rotate_left
  · intro w hSw; (try dsimp only at hSw); go_simp; try (with_reducible rfl)
  try simp only [Act.put, List.setIfInBounds_toArray, List.set_cons_zero, List.set_cons_succ]
  refine GoE.take (i := 9) (v := ?_) rfl (by decide) (by kernel_rfl) (by kernel_rfl) (by kernel_rfl) (by kernel_rfl) (fun _ _ _ h => h) (by rfl) ?_ (by assumption) ?_
  rotate_left
  · intro w hSw; (try dsimp only at hSw); go_simp; try (with_reducible rfl)
  try simp only [Act.put, List.setIfInBounds_toArray, List.set_cons_zero, List.set_cons_succ]
  refine GoE.take (i := 10) (v := ?_) rfl (by decide) (by kernel_rfl) (by kernel_rfl) (by kernel_rfl) (by kernel_rfl) (fun _ _ _ h => h) (by rfl) ?_ (by assumption) ?_
  rotate_left
  · intro w hSw; (try dsimp only at hSw); go_simp; try (with_reducible rfl)
  try simp only [Act.put, List.setIfInBounds_toArray, List.set_cons_zero, List.set_cons_succ]
  refine GoE.take (i := 11) (v := ?_) rfl (by decide) (by kernel_rfl) (by kernel_rfl) (by kernel_rfl) (by kernel_rfl) (fun _ _ _ h => h) (by rfl) ?_ (by assumption) ?_
  rotate_left
  · intro w hSw; (try dsimp only at hSw); go_simp; try (with_reducible rfl)
  try simp only [Act.put, List.setIfInBounds_toArray, List.set_cons_zero, List.set_cons_succ]
  refine GoE.take (i := 12) (v := ?_) rfl (by decide) (by kernel_rfl) (by kernel_rfl) (by kernel_rfl) (by kernel_rfl) (fun _ _ _ h => h) (by rfl) ?_ (by assumption) ?_
  rotate_left
  · intro w hSw; (try dsimp only at hSw); go_simp; try (with_reducible rfl)
  try simp only [Act.put, List.setIfInBounds_toArray, List.set_cons_zero, List.set_cons_succ]
  refine GoE.take (i := 13) (v := ?_) rfl (by decide) (by kernel_rfl) (by kernel_rfl) (by kernel_rfl) (by kernel_rfl) (fun _ _ _ h => h) (by rfl) ?_ (by assumption) ?_
  rotate_left
  · intro w hSw; (try dsimp only at hSw); go_simp; try (with_reducible rfl)
  try simp only [Act.put, List.setIfInBounds_toArray, List.set_cons_zero, List.set_cons_succ]
  refine GoE.one (i := 6) rfl (by kernel_rfl) (fun K hK => ?_)
  go_simp
  go_at_call 29
  (with_reducible refine (k4).mono ?_)
  rintro e w5 ⟨v, rfl, rfl, rfl⟩
  go_wp2_with fail
  refine hK.out _ _ (fun _ => S4) ?_
  clear hK K
  try simp only [Act.put, List.setIfInBounds_toArray, List.set_cons_zero, List.set_cons_succ]
  refine GoE.take (i := 7) (v := ?_) rfl (by decide) (by kernel_rfl) (by kernel_rfl) (by kernel_rfl) (by kernel_rfl) (fun _ _ _ h => h) (by rfl) ?_ (by assumption) ?_
  rotate_left
  · intro w hSw; (try dsimp only at hSw); go_simp; try (with_reducible rfl)
  try simp only [Act.put, List.setIfInBounds_toArray, List.set_cons_zero, List.set_cons_succ]
  refine GoE.one (i := 14) rfl (by kernel_rfl) (fun K hK => ?_)
  go_simp
  go_at_call 25
  (with_reducible refine (k5).mono ?_)
  rintro e w6 ⟨v, rfl, h6⟩
  go_wp2_with fail
  refine hK.out _ _ (fun h => absurd rfl h) ?_
  clear hK K
  try simp only [Act.put, List.setIfInBounds_toArray, List.set_cons_zero, List.set_cons_succ]
  refine GoE.done (by kernel_rfl) ?_
  go_wp2
  go_ret
  exact Ret.mk ⟨rfl, h6.swap⟩
theorem give_ok {h l : Int} (ok : RgOk r m.length) (hr : (-9223372036854775808 ≤ h ∧ h ≤ 9223372036854775807) ∧ -9223372036854775808 ≤ l ∧ l ≤ 9223372036854775807) (hs : SatL w (DevR vb mb o r :: SlB 5 (.slice (some ⟨mb, o, none⟩) N c) m :: L)) :
    Calls Try.prog 14 #[.pointer (some ⟨vb, 0, none⟩), .int .i64 h, .int .i64 l] w (Ret fun v w' => v = .int .i64 (r.give m h l).e ∧ SatL w' (DevR vb mb o (r.give m h l).r :: SlB 5 (.slice (some ⟨mb, o, none⟩) N c) (r.give m h l).m :: L)) := by
  unfold Ring.give
  split
  · rename_i hb
    refine (give_no hr hb hs).mono ?_
    rintro e w' ⟨v, rfl, rfl, rfl⟩
    exact Ret.mk ⟨rfl, hs⟩
  · rename_i hb
    obtain ⟨h', rfl⟩ := Int.eq_ofNat_of_zero_le (show 0 ≤ h by omega)
    obtain ⟨l', rfl⟩ := Int.eq_ofNat_of_zero_le (show 0 ≤ l by omega)
    exact give_yes ok (by omega) hs
end
end Go.Proofs.Ytnniipeoahpkcaa
