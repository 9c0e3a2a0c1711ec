/- Take: the next chain that is offered, out of memory of any bytes. No condition beside the sizes that it names. -/
import Derived.Test.YtnniipeoahpkcaaVqB
import Derived.Laws.BitsAllLaws
import Derived.Deep.Cut
import Derived.Deep.CutRange
import Derived.Deep.QuietTactic
import Derived.BigQuiet
import Derived.RegionTactic
import Derived.BigRegion
namespace Go.Proofs.Ytnniipeoahpkcaa
set_option linter.unusedVariables false
set_option linter.unusedSimpArgs false
open Go.RowKit
/-- a piece of a chain -/
structure Bf where
  addr : Int
  len : Int
  wr : Bool
def bfC (b : Bf) : List Value := [.int .i64 b.addr, .int .i64 b.len, .bool b.wr]
def bufV (l : List Bf) : List Value := l.flatMap bfC
theorem bufV_len : ∀ l : List Bf, (bufV l).length = l.length * 3
  | [] => rfl
  | b :: l => by show (bfC b ++ bufV l).length = _; rw [List.length_append, bufV_len l]; simp [bfC]; omega
theorem bufV_snoc (l : List Bf) (b : Bf) : bufV (l ++ [b]) = bufV l ++ [.int .i64 b.addr, .int .i64 b.len, .bool b.wr] := by
  unfold bufV; rw [List.flatMap_append, List.flatMap_singleton]; rfl
theorem bufV_get : ∀ {l : List Bf} {i : Nat} {b : Bf}, l[i]? = some b → (bufV l)[i * 3]? = some (.int .i64 b.addr) ∧ (bufV l)[i * 3 + 1]? = some (.int .i64 b.len) ∧ (bufV l)[i * 3 + 2]? = some (.bool b.wr)
  | [], i, b, h => by simp at h
  | x :: l, 0, b, h => by simp at h; subst h; exact ⟨rfl, rfl, rfl⟩
  | x :: l, i + 1, b, h => by
    have h2 : l[i]? = some b := by simpa using h
    obtain ⟨a1, a2, a3⟩ := bufV_get h2
    have e : bufV (x :: l) = bfC x ++ bufV l := rfl
    have hl : (bfC x).length = 3 := rfl
    rw [e]
    refine ⟨?_, ?_, ?_⟩ <;> rw [List.getElem?_append_right (by rw [hl]; omega), hl]
    · rw [show (i + 1) * 3 - 3 = i * 3 by omega]; exact a1
    · rw [show (i + 1) * 3 + 1 - 3 = i * 3 + 1 by omega]; exact a2
    · rw [show (i + 1) * 3 + 2 - 3 = i * 3 + 2 by omega]; exact a3
abbrev BufR (v : Value) (l : List Bf) : HP := SlK 36 3 v l.length (bufV l)
def takeL (m : List UInt8) (b n : Nat) : Nat → Nat → List Bf → Option (List Bf)
  | 0, _, _ => none
  | f + 1, i, out => if n ≤ i then none else if 4611686018427387904 < lget m (b + 16 * i) 8 then none else
    if lget m (b + (16 * i + 12)) 2 % 2 = 0 then some (out ++ [⟨lget m (b + 16 * i) 8, lget m (b + (16 * i + 8)) 4, decide (lget m (b + (16 * i + 12)) 2 / 2 % 2 = 1)⟩])
    else takeL m b n f (lget m (b + (16 * i + 14)) 2) (out ++ [⟨lget m (b + 16 * i) 8, lget m (b + (16 * i + 8)) 4, decide (lget m (b + (16 * i + 12)) 2 / 2 % 2 = 1)⟩])
structure Took where
  head : Nat
  l : List Bf
  e : Int
def Ring.step (r : Ring) : Ring := { r with off := (r.off + 1) % 65536 }
def Ring.stepU (r : Ring) : Ring := { r with use := (r.use + 1) % 65536 }
def Ring.headAt (r : Ring) (m : List UInt8) : Nat := lget m (r.base + (16 * r.n + 4 + 2 * (r.off % r.n))) 2
def Ring.take (r : Ring) (m : List UInt8) : Took × Ring :=
  if lget m (r.base + (16 * r.n + 2)) 2 = r.off then (⟨0, [], 2⟩, r) else
    match takeL m r.base r.n r.n (r.headAt m) [] with
    | none => (⟨0, [], 15⟩, r.step)
    | some l => (⟨r.headAt m, l, 0⟩, r.step)
theorem and2_u64 (y : Nat) (hy : y < 65536) : bits .and .u64 (y : Int) 2 = ((2 * (y / 2 % 2) : Nat) : Int) := by
  rw [u64_and _ _ (by omega) (by omega) (by omega) (by omega)]
  have : ((y : Int).toNat &&& (2 : Int).toNat) = 2 * (y / 2 % 2) := by
    show y &&& 2 = _
    apply Nat.eq_of_testBit_eq
    intro i
    rw [Nat.testBit_and]
    match i with
    | 0 => simp [Nat.testBit_zero]
    | 1 =>
      simp only [Nat.testBit_succ, Nat.testBit_zero]
      rw [show 2 * (y / 2 % 2) / 2 = y / 2 % 2 by omega]
      rw [show y / 2 % 2 % 2 = y / 2 % 2 by omega]; simp
    | k + 2 =>
      simp only [Nat.testBit_succ]
      rw [show 2 * (y / 2 % 2) / 2 / 2 = 0 by omega]
      simp
  rw [this]
theorem and1_u64 (y : Nat) (hy : y < 65536) : bits .and .u64 (y : Int) 1 = ((y % 2 : Nat) : Int) := by
  rw [u64_and _ _ (by omega) (by omega) (by omega) (by omega)]
  have : ((y : Int).toNat &&& (1 : Int).toNat) = y % 2 := by
    show y &&& 1 = y % 2
    exact Nat.and_one_is_mod y
  rw [this]
theorem RdB.drewN {v : Value} {l : List UInt8} {w : World} (h : RdB v l w) (m : Nat) : RdB v l (w.drewN m) := h
theorem sat_dn {w : World} {L : List HP} {n : Nat} : SatL (w.drewN n) L ↔ SatL w L := Iff.rfl
theorem quietR {P : Program} {f : FuncId} {args : Array Value} {w : World} {n : Nat} {v : Value} (h : Calls P f args (w.drewN n) (Ret fun r w' => r = v ∧ w.drewN n = w')) : Calls P f args (w.drewN n) fun e w'' => e = .returned v ∧ ∃ m, w'' = w.drewN m :=
  h.mono fun _ _ ⟨_, he, hv, hw⟩ => ⟨by rw [he, hv], n, hw.symm⟩
section
variable {w : World} {L : List HP} {vb mb o N c : Nat} {r : Ring} {m : List UInt8}
theorem elem_buf : ElemOk Try.prog 37 36 3 24 [Value.int .i64 0, Value.int .i64 0, Value.bool false] := .of (z := .agg #[.int .i64 0, .int .i64 0, .bool false]) (by kernel_rfl) (by kernel_rfl) rfl rfl (by decide) (by simp [Value.oneCell'])
/-- what a side's cells say -/
theorem DevR.cells (h : SatL w (DevR vb mb o r :: L)) : w.cell? ⟨vb, 0, none⟩ = some (.slice (some ⟨mb, o + r.base, none⟩) (qs r.n) (qs r.n)) ∧ w.cell? ⟨vb, 1, none⟩ = some (.int .i64 r.n) ∧ w.cell? ⟨vb, 2, none⟩ = some (.int .i64 r.off) ∧ w.cell? ⟨vb, 3, none⟩ = some (.int .i64 r.use) :=
  ⟨h.cell (i := 0) rfl, h.cell (i := 1) rfl, h.cell (i := 2) rfl, h.cell (i := 3) rfl⟩
def lenV (v : Value) : Nat := match v with | .slice _ n _ => n | _ => 0
theorem vget_at {a k : Nat} (ok : RgOk r m.length) (hk : sizeOk k) (ha : a + k ≤ qs r.n) (h : SatL w (DevR vb mb o r :: SlB 5 (.slice (some ⟨mb, o, none⟩) N c) m :: L)) :
    Calls Try.prog 28 #[.pointer (some ⟨vb, 0, none⟩), .int .i64 a, .int .i64 k] w (Ret fun v w' => v = .int .u64 (lget m (r.base + a) k : Nat) ∧ w = w') := by
  have hn := pow2_le ok.pw
  exact vget_ok hk ha ok.fit (by show 8 + 26 * r.n ≤ 1000000; omega) (DevR.cells h).1 (SlB.rd (h.pull 1))
set_option maxRecDepth 100000 in
set_option maxHeartbeats 2000000 in
theorem take_ok (ok : RgOk r m.length) (hm : m.length ≤ 1000000) (h : SatL w (DevR vb mb o r :: SlB 5 (.slice (some ⟨mb, o, none⟩) N c) m :: L)) :
    Calls Try.prog 13 #[.pointer (some ⟨vb, 0, none⟩)] w (Ret fun v w' => ∃ lv, v = .tuple #[.int .i64 (r.take m).1.head, lv, .int .i64 (r.take m).1.e] ∧ SatL w' (BufR lv (r.take m).1.l :: DevR vb mb o (r.take m).2 :: SlB 5 (.slice (some ⟨mb, o, none⟩) N c) m :: L)) := by
  obtain ⟨pw, fit, ob, ub⟩ := ok
  have hn := pow2_le pw
  have hqs : qs r.n = 8 + 26 * r.n := rfl
  obtain ⟨c0, c1, c2, c3⟩ := DevR.cells h
  have hrd : RdB (.slice (some ⟨mb, o, none⟩) N c) m w := SlB.rd (h.pull 1)
  have q1 := fun (k : Nat) => quietR (n := k) (vavail_ok (w := w.drewN k) (rb := vb) (n := r.n) hn.2 c1)
  have q2 := fun (k : Nat) => quietR (n := k) (vget_ok (w := w.drewN k) (rb := vb) (a := 16 * r.n + 2) (k := 2) (.inr (.inl rfl)) (by rw [hqs]; omega) fit (by rw [hqs]; omega) c0 (RdB.drewN hrd k))
  rw [show ((16 * r.n + 2 : Nat) : Int) = ((16 * r.n : Nat) : Int) + 2 by omega, show ((2 : Nat) : Int) = 2 from rfl] at q2
  by_cases h1 : lget m (r.base + (16 * r.n + 2)) 2 = r.off
  · have e : r.take m = (⟨0, [], 2⟩, r) := by unfold Ring.take; rw [if_pos h1]
    rw [e]
    have d1 : (((lget m (r.base + (16 * r.n + 2)) 2 : Nat) : Int) == ((r.off : Nat) : Int)) = true := by rw [h1]; simp
    generalize lget m (r.base + (16 * r.n + 2)) 2 = hd at *
    have hb : 16 * r.n ≤ 4096 := by omega
    have hbh : hd < 65536 := by rw [h1]; exact ob
    generalize 16 * r.n = A at *
    have w1 : IntKind.i64.wrap ((A : Int) + 2) = (A : Int) + 2 := IntWalk.i64_in _ (by omega)
    clear fit hqs hrd h1 e
    have Hs := hid h
    clear h
    go_enter Try.func13, Try.ntmps13
    go_wp2
    go_quiet (first | (go_at_call 26; (with_reducible exact q1 _)) | (go_at_call 28; (with_reducible exact q2 _)))
    go_wp2
    go_ret3
    exact Ret.mk ⟨_, rfl, SlK_nil (sat_dn.2 Hs.out)⟩
  · have d1 : (((lget m (r.base + (16 * r.n + 2)) 2 : Nat) : Int) == ((r.off : Nat) : Int)) = false := by simp; omega
    have d1b : ¬ ((lget m (r.base + (16 * r.n + 2)) 2 : Nat) : Int) = ((r.off : Nat) : Int) := by omega
    obtain ⟨q, hq⟩ : ∃ q, q = r.off % r.n := ⟨_, rfl⟩
    have hqn : q < r.n := by rw [hq]; exact Nat.mod_lt _ (by omega)
    have e1 : Int.tmod (r.off : Int) (r.n : Int) = (q : Int) := by rw [Int.tmod_eq_emod_of_nonneg (by omega), hq]; rfl
    have e2 : (r.off : Int) % (r.n : Int) = (q : Int) := by rw [hq]; rfl
    have hnz : ¬ (r.n : Int) = 0 := by omega
    have e : r.take m = match takeL m r.base r.n r.n (r.headAt m) [] with | none => (⟨0, [], 15⟩, r.step) | some l => (⟨r.headAt m, l, 0⟩, r.step) := by unfold Ring.take; rw [if_neg h1]
    have q3 := fun (w : World) (c0 : w.cell? ⟨vb, 0, none⟩ = some (.slice (some ⟨mb, o + r.base, none⟩) (qs r.n) (qs r.n))) (hrd : RdB (.slice (some ⟨mb, o, none⟩) N c) m w) (k : Nat) => quietR (n := k) (vget_ok (w := w.drewN k) (rb := vb) (a := 16 * r.n + 4 + 2 * q) (k := 2) (.inr (.inl rfl)) (by rw [hqs]; omega) fit (by rw [hqs]; omega) c0 (RdB.drewN hrd k))
    have hh : lget m (r.base + (16 * r.n + 4 + 2 * q)) 2 = r.headAt m := by unfold Ring.headAt; rw [← hq]
    have q4 := fun (w : World) (c1 : w.cell? ⟨vb, 1, none⟩ = some (.int .i64 r.n)) (k : Nat) => quietR (n := k) (vavail_ok (w := w.drewN k) (rb := vb) (n := r.n) hn.2 c1)
    simp only [show ((16 * r.n + 4 + 2 * q : Nat) : Int) = ((16 * r.n : Nat) : Int) + 4 + 2 * (q : Int) by omega, hh, show ((2 : Nat) : Int) = 2 from rfl] at q3
    have hhd : r.headAt m < 65536 := lget_lt m _ 2
    have hgl := lget_lt m (r.base + (16 * r.n + 2)) 2
    have hnx := vnext_ok ob
    have hg : Hid (∀ (w' : World) (L' : List HP) (a k : Nat), sizeOk k → a + k ≤ qs r.n → SatL w' (DevR vb mb o r.step :: SlB 5 (.slice (some ⟨mb, o, none⟩) N c) m :: L') →
        Calls Try.prog 28 #[.pointer (some ⟨vb, 0, none⟩), .int .i64 a, .int .i64 k] w' (Ret fun v w'' => v = .int .u64 (lget m (r.base + a) k : Nat) ∧ w' = w'')) :=
      hid (fun w' L' a k hk ha h => vget_at (r := r.step) ⟨pw, fit, Nat.mod_lt _ (by omega), ub⟩ hk ha h)
    rw [hqs] at hg
    have hset : Hid (∀ w' : World, SatL w' (DevR vb mb o r :: SlB 5 (.slice (some ⟨mb, o, none⟩) N c) m :: L) → SatL (w'.setCell ⟨vb, 2, none⟩ (.int .i64 ((r.off + 1) % 65536 : Nat))) (DevR vb mb o r.step :: SlB 5 (.slice (some ⟨mb, o, none⟩) N c) m :: L)) := hid (fun w' h => h.set (i := 2) (.int .i64 ((r.off + 1) % 65536 : Nat)))
    have hfr := hid (fun (w' : World) (L' : List HP) (h : SatL w' (DevR vb mb o r :: L')) => h.free 2)
    have hcl := hid (fun (w' : World) (L' : List HP) (h : SatL w' (DevR vb mb o r.step :: L')) => (DevR.cells h).2.1)
    have hle : ∀ i, takeL m r.base r.n 0 i = fun _ => none := fun _ => rfl
    generalize lget m (r.base + (16 * r.n + 2)) 2 = hd at *
    generalize r.headAt m = hv at *
    have He := hid e
    clear e
    generalize r.take m = res at *
    have hb : 16 * r.n ≤ 4096 := by omega
    generalize 16 * r.n = A at *
    have w1 : IntKind.i64.wrap ((A : Int) + 2) = (A : Int) + 2 := IntWalk.i64_in _ (by omega)
    have w2 : IntKind.i64.wrap ((A : Int) + 4) = (A : Int) + 4 := IntWalk.i64_in _ (by omega)
    have w3 : IntKind.i64.wrap (2 * (q : Int)) = 2 * (q : Int) := IntWalk.i64_in _ (by omega)
    have w4 : IntKind.i64.wrap ((A : Int) + 4 + 2 * (q : Int)) = (A : Int) + 4 + 2 * (q : Int) := IntWalk.i64_in _ (by omega)
    have w5 : IntKind.i64.wrap (hv : Int) = (hv : Int) := IntWalk.i64_in _ (by omega)
    have w6 : IntKind.i64.wrap (hd : Int) = (hd : Int) := IntWalk.i64_in _ (by omega)
    have w7 : IntKind.i64.wrap (q : Int) = (q : Int) := IntWalk.i64_in _ (by omega)
    have hoz : (r.off : Int) < 65536 := by omega
    have hqz : (q : Int) < 256 := by omega
    have H0 := hid h
    have Hn := hid hn
    have hnz2 : (r.n : Int) ≤ 256 := by omega
    clear h h1 fit ob ub pw hq hh hqs hn hle
    go_enter Try.func13, Try.ntmps13
    go_wp2
    go_quiet (first | (go_at_call 26; (with_reducible exact q1 _)) | (go_at_call 28; (with_reducible exact q2 _)))
    have Q3 := q3 (w.drewN nq) c0 (RdB.drewN hrd nq)
    have Q4 := q4 (w.drewN nq) c1
    have H1 := hid (sat_dn.2 H0.out : SatL (w.drewN nq) _)
    have e0 : (w.drewN nq).cell? ⟨vb, 0, none⟩ = some (.slice (some ⟨mb, o + r.base, none⟩) (qs r.n) (qs r.n)) := c0
    have f1 : (w.drewN nq).cell? ⟨vb, 1, none⟩ = some (.int .i64 r.n) := c1
    have f2 : (w.drewN nq).cell? ⟨vb, 2, none⟩ = some (.int .i64 r.off) := c2
    clear q1 q2 q3 q4 c0 c1 c2 c3 H0 hrd
    generalize w.drewN nq = wA at *
    go_wp2
    go_quiet (first | (go_at_call 26; (with_reducible exact Q4 _)) | (go_at_call 28; (with_reducible exact Q3 _)))
    have H2 := (sat_dn.2 H1.out : SatL (wA.drewN nq) _)
    clear H1 Q3 Q4 e0 f1 f2 w1 w2 w3 w4 w6 w7 e1 e2 hqn hqz d1 d1b hgl
    generalize wA.drewN nq = wB at *
    obtain ⟨g0, g1, g2, g3⟩ := DevR.cells H2
    have g4 := hfr.out _ _ H2
    have H3 := hid (hset.out _ H2)
    clear hset hfr H2
    have hnx1 := hnx wB
    have hro : (r.off + 1) % 65536 < 65536 := Nat.mod_lt _ (by omega)
    clear hnx
    generalize (r.off + 1) % 65536 = ro at *
    go_wp2_with (first
      | (go_at_call 27; (with_reducible refine hnx1.mono ?_); rintro e w3 ⟨v, rfl, rfl, rfl⟩))
    go_loopw [6, 7] (fun out i wr => ∃ (f j : Nat) (l : List Bf), j < 65536 ∧ i = .int .i64 j ∧ l.length + f = r.n ∧ takeL m r.base r.n f j l = takeL m r.base r.n r.n hv [] ∧ SatL wr (BufR out l :: DevR vb mb o r.step :: SlB 5 (.slice (some ⟨mb, o, none⟩) N c) m :: L)) (fun out _ _ => 300 - lenV out)
    case atStart => exact ⟨r.n, hv, [], hhd, rfl, by simp, rfl, SlK_nil H3.out⟩
    case round =>
      clear H3 g0 g1 g2 g3 g4 hnx1 hro w5 hoz
      obtain ⟨f, j, l, hj, rfl, hl, hT, hs⟩ := hrel
      have c1 := hcl.out _ _ hs.tail
      have c1' : wr.cell? ⟨vb, 1, none⟩ = some (.int .i64 r.n) := c1
      obtain ⟨la, lc, rfl, l1, l2⟩ := SlK.valn hs
      have hjz : (j : Int) < 65536 := by omega
      clear c1
      by_cases hjn : r.n ≤ j
      · have hN : takeL m r.base r.n r.n hv [] = none := by
          rw [← hT]; cases f with
          | zero => rfl
          | succ f => unfold takeL; rw [if_pos hjn]
        have e := He.out
        rw [hN] at e
        subst e
        have hz : (r.n : Int) ≤ j := by omega
        have HT := hid (SatL.tail hs)
        clear hT hs hN hg
        go_wp2
        go_ret3
        exact Ret.mk ⟨_, rfl, SlK_nil HT.out⟩
      cases f with
      | zero =>
        have hN : takeL m r.base r.n r.n hv [] = none := by rw [← hT]; rfl
        have e := He.out
        rw [hN] at e
        subst e
        have hz : ¬ (r.n : Int) ≤ j := by omega
        have hz2 : l.length = r.n := by omega
        have HT := hid (SatL.tail hs)
        clear hT hs hN hg
        go_wp2
        go_ret3
        exact Ret.mk ⟨_, rfl, SlK_nil HT.out⟩
      | succ f =>
        have hz : ¬ (r.n : Int) ≤ j := by omega
        have hz2 : ¬ (l.length : Int) = r.n := by omega
        have hln : ¬ l.length = r.n := by omega
        have q1 := hg.out wr _ (16 * j) 8 (.inr (.inr (.inr rfl))) (by omega) hs.tail
        have q2 := hg.out wr _ (16 * j + 12) 2 (.inr (.inl rfl)) (by omega) hs.tail
        have q3 := hg.out wr _ (16 * j + 8) 4 (.inr (.inr (.inl rfl))) (by omega) hs.tail
        have q4 := hid (fun (w' : World) (L' : List HP) (h : SatL w' (DevR vb mb o r.step :: SlB 5 (.slice (some ⟨mb, o, none⟩) N c) m :: L')) => hg.out w' L' (16 * j + 14) 2 (.inr (.inl rfl)) (by omega) h)
        rw [show ((16 * j : Nat) : Int) = 16 * (j : Int) by omega, show ((8 : Nat) : Int) = 8 from rfl] at q1
        rw [show ((16 * j + 12 : Nat) : Int) = 16 * (j : Int) + 12 by omega, show ((2 : Nat) : Int) = 2 from rfl] at q2
        rw [show ((16 * j + 8 : Nat) : Int) = 16 * (j : Int) + 8 by omega, show ((4 : Nat) : Int) = 4 from rfl] at q3
        simp only [show ((16 * j + 14 : Nat) : Int) = 16 * (j : Int) + 14 by omega, show ((2 : Nat) : Int) = 2 from rfl] at q4
        have hT2 : (if 4611686018427387904 < lget m (r.base + 16 * j) 8 then none else
            if lget m (r.base + (16 * j + 12)) 2 % 2 = 0 then some (l ++ [⟨lget m (r.base + 16 * j) 8, lget m (r.base + (16 * j + 8)) 4, decide (lget m (r.base + (16 * j + 12)) 2 / 2 % 2 = 1)⟩])
            else takeL m r.base r.n f (lget m (r.base + (16 * j + 14)) 2) (l ++ [⟨lget m (r.base + 16 * j) 8, lget m (r.base + (16 * j + 8)) 4, decide (lget m (r.base + (16 * j + 12)) 2 / 2 % 2 = 1)⟩])) = takeL m r.base r.n r.n hv [] := by
          rw [← hT]; show _ = (if _ then _ else _); rw [if_neg hjn]
        have b1 : lget m (r.base + (16 * j + 8)) 4 < 4294967296 := lget_lt m _ 4
        have b2 : lget m (r.base + (16 * j + 12)) 2 < 65536 := lget_lt m _ 2
        have b3 : lget m (r.base + (16 * j + 14)) 2 < 65536 := lget_lt m _ 2
        have g2 := and2_u64 _ b2
        have g1 := and1_u64 _ b2
        generalize lget m (r.base + (16 * j + 8)) 4 = xl at *
        generalize lget m (r.base + (16 * j + 14)) 2 = xn at *
        generalize lget m (r.base + (16 * j + 12)) 2 = xf at *
        generalize lget m (r.base + 16 * j) 8 = xa at *
        have Hl := hid hl
        clear hjz
        have hlb : l.length < 256 := by have := Hn.out; omega
        clear hl
        by_cases hbig : 4611686018427387904 < xa
        · rw [if_pos hbig] at hT2
          have e := He.out
          rw [← hT2] at e
          subst e
          have hbz : (4611686018427387904 : Int) < xa := by omega
          have HT := hid (SatL.tail hs)
          clear hT hT2 hs hg q3 q4 g1 g2 He hbig
          go_wp2_with (first
            | (go_at_call 28; (with_reducible refine q1.mono ?_); rintro e w3 ⟨v, rfl, rfl, rfl⟩)
            | (go_at_call 28; (with_reducible refine q2.mono ?_); rintro e w3 ⟨v, rfl, rfl, rfl⟩))
          go_ret3
          exact Ret.mk ⟨_, rfl, SlK_nil HT.out⟩
        · rw [if_neg hbig] at hT2
          have hbz : ¬ (4611686018427387904 : Int) < xa := by omega
          have hbz2 : (xa : Int) ≤ 4611686018427387904 := by omega
          have wl : IntKind.i64.wrap (xl : Int) = (xl : Int) := IntWalk.i64_in _ (by omega)
          have wn : IntKind.i64.wrap (xn : Int) = (xn : Int) := IntWalk.i64_in _ (by omega)
          have wa : IntKind.i64.wrap (xa : Int) = (xa : Int) := IntWalk.i64_in _ (by omega)
          obtain ⟨wb, hwb⟩ : ∃ wb : Bool, wb = decide (xf / 2 % 2 = 1) := ⟨_, rfl⟩
          have g3 : ((((2 * (xf / 2 % 2) : Nat)) : Int) != 0) = wb := by
            rw [hwb]
            by_cases hx : xf / 2 % 2 = 1
            · rw [hx]; rfl
            · have : xf / 2 % 2 = 0 := by omega
              rw [this]; rfl
          rw [← hwb] at hT2
          clear hwb
          generalize 2 * (xf / 2 % 2) = xg at *
          have hs1 := hs.alloc (.cells #[.int .i64 xa, .int .i64 xl, .bool wb] 36)
          have hsrc := SrcOk.ofCl (n := 1) (k := 3) elem_buf.under hs1 rfl 1
          have hK := SatL.swap hs1
          have hone := hid (show ∀ y ∈ #[Value.int .i64 xa, .int .i64 xl, .bool wb].toList, y.oneCell' = true by intro y hy; simp at hy; rcases hy with rfl | rfl | rfl <;> rfl)
          have e1 : (l.length + 1) * 24 ≤ 140737488355328 := by omega
          have e2 : l.length + 1 ≤ maxLen := by unfold maxLen; omega
          have hsn := hid (bufV_snoc l ⟨xa, xl, wb⟩)
          have HT := hid hT2
          clear hT hT2 hs hg hbig
          by_cases hev : xf % 2 = 0
          · have g1z : ((xf % 2 : Nat) : Int) = 0 := by omega
            rw [g1z] at g1
            have e := He.out
            rw [← HT.out, if_pos hev] at e
            subst e
            clear He HT hev
            go_wp2_with (first
              | (go_at_call 28; (with_reducible refine q1.mono ?_); rintro e w3 ⟨v, rfl, rfl, rfl⟩)
              | (go_at_call 28; (with_reducible refine q2.mono ?_); rintro e w3 ⟨v, rfl, rfl, rfl⟩)
              | (go_at_call 28; (with_reducible refine q3.mono ?_); rintro e w3 ⟨v, rfl, rfl, rfl⟩)
              | (at_builtin; refine wpList_append_sl rfl (.tmp 93) (.tmp 107) rfl elem_buf rfl hK rfl hsrc hone.out e1 e2 ?_; intro v9 w9 h9 _))
            go_ret3
            have h10 := SatL.tail h9.swap
            have h11 : SatL w9 (BufR v9 (l ++ [⟨xa, xl, wb⟩]) :: DevR vb mb o r.step :: SlB 5 (.slice (some ⟨mb, o, none⟩) N c) m :: L) := by
              show SatL w9 (SlK _ _ _ _ _ :: _)
              rw [hsn.out, List.length_append]; exact h10
            exact Ret.mk ⟨_, rfl, h11⟩
          · have g1z : ((xf % 2 : Nat) : Int) = 1 := by omega
            rw [g1z] at g1
            have HT2 := hid (by have e := HT.out; rw [if_neg hev] at e; exact e)
            clear HT hev
            go_wp2_with (first
              | (go_at_call 28; (with_reducible refine q1.mono ?_); rintro e w3 ⟨v, rfl, rfl, rfl⟩)
              | (go_at_call 28; (with_reducible refine q2.mono ?_); rintro e w3 ⟨v, rfl, rfl, rfl⟩)
              | (go_at_call 28; (with_reducible refine q3.mono ?_); rintro e w3 ⟨v, rfl, rfl, rfl⟩)
              | (at_builtin; refine wpList_append_sl rfl (.tmp 93) (.tmp 107) rfl elem_buf rfl hK rfl hsrc hone.out e1 e2 ?_; intro v9 w9 h9 _; have h10 := SatL.tail h9.swap; have q5 := q4.out _ _ h10.tail; obtain ⟨va, vc, rfl, v1, v2⟩ := SlK.valn h10)
              | (go_at_call 28; (with_reducible refine q5.mono ?_); rintro e w3 ⟨v, rfl, rfl, rfl⟩))
            go_roundw
            case rel =>
              refine ⟨f, xn, l ++ [⟨xa, xl, wb⟩], b3, by go_num, by rw [List.length_append]; have := Hl.out; simp; omega, HT2.out, ?_⟩
              show SatL _ (SlK _ _ _ _ _ :: _)
              rw [hsn.out, List.length_append]; exact h10
            case measure => simp [lenV]; omega
end
end Go.Proofs.Ytnniipeoahpkcaa
