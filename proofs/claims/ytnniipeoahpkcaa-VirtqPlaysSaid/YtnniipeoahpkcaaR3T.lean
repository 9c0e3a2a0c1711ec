/- The document's queue: Take. No condition beside the sizes that it names. -/
import Derived.Test.YtnniipeoahpkcaaR3G
namespace Go.Proofs.Ytnniipeoahpkcaa
set_option linter.unusedVariables false
set_option linter.unusedSimpArgs false
open Go.RowKit
theorem i64_and_nat (a b : Nat) (ha : a < 65536) (hb : b < 65536) : bits .and .i64 (a : Int) (b : Int) = ((a &&& b : Nat) : Int) := by
  have hx : a &&& b < 2 ^ 16 := Nat.and_lt_two_pow _ (by omega)
  show IntKind.i64.wrap ((BitVec.ofInt 64 (a : Int) &&& BitVec.ofInt 64 (b : Int)).toNat : Int) = _
  rw [BitVec.toNat_and, ofInt_u64 a (by omega), ofInt_u64 b (by omega)]
  exact IntWalk.i64_in _ (by omega)
theorem and2_i64 (y : Nat) (hy : y < 65536) : bits .and .i64 (y : Int) 2 = ((2 * (y / 2 % 2) : Nat) : Int) := by
  rw [show (2 : Int) = ((2 : Nat) : Int) from rfl, i64_and_nat _ _ hy (by omega), ← u64_and_nat _ _ (by omega) (by omega)]
  exact and2_u64 y hy
theorem and1_i64 (y : Nat) (hy : y < 65536) : bits .and .i64 (y : Int) 1 = ((y % 2 : Nat) : Int) := by
  rw [show (1 : Int) = ((1 : Nat) : Int) from rfl, i64_and_nat _ _ hy (by omega), ← u64_and_nat _ _ (by omega) (by omega)]
  exact and1_u64 y hy
section
variable {w : World} {L : List HP} {vb mb o N c : Nat} {r : Ring} {m : List UInt8}
set_option maxRecDepth 100000 in
set_option maxHeartbeats 4000000 in
theorem reftake_ok (ok : RgOk r m.length) (hm : m.length ≤ 1000000) (h : SatL w (XDevR vb mb o N c r :: SlB 5 (.slice (some ⟨mb, o, none⟩) N c) m :: L)) :
    Calls Try.prog 34 #[.pointer (some ⟨vb, 0, none⟩)] w (Ret fun v w' => ∃ lv, v = .tuple #[.int .i64 (r.take m).1.head, lv, .int .i64 (r.take m).1.e] ∧ SatL w' (BufR lv (r.take m).1.l :: XDevR vb mb o N c (r.take m).2 :: SlB 5 (.slice (some ⟨mb, o, none⟩) N c) m :: L)) := by
  obtain ⟨pw, fit, ob, ub⟩ := ok
  have hn := pow2_le pw
  have hqs : qs r.n = 8 + 26 * r.n := rfl
  obtain ⟨c0, c1, c2, c3, _⟩ := XDevR.cells h
  have hrd : RdB (.slice (some ⟨mb, o, none⟩) N c) m w := SlB.rd (h.pull 1)
  obtain ⟨K, hK⟩ : ∃ K, K = r.base + 16 * r.n := ⟨_, rfl⟩
  have q2 := fun (wA : World) (hr : RdB (.slice (some ⟨mb, o, none⟩) N c) m wA) (k : Nat) => quietR (n := k) (reflem_ok (w := wA.drewN k) (a := K + 2) (k := 2) (.inr (.inl rfl)) (by omega) (by omega) (RdB.drewN hr k))
  simp only [show ((K + 2 : Nat) : Int) = (K : Int) + 2 by omega, show ((2 : Nat) : Int) = 2 from rfl] at q2
  have hbz : (r.base : Int) ≤ 1000000 := by omega
  have hnz2 : (r.n : Int) ≤ 256 := by omega
  have w1 : IntKind.i64.wrap (16 * (r.n : Int)) = 16 * (r.n : Int) := IntWalk.i64_in _ (by omega)
  have w2 : IntKind.i64.wrap ((r.base : Int) + 16 * (r.n : Int)) = (K : Int) := by rw [show (r.base : Int) + 16 * (r.n : Int) = (K : Int) by omega]; exact IntWalk.i64_in _ (by omega)
  have w3 : IntKind.i64.wrap ((K : Int) + 2) = (K : Int) + 2 := IntWalk.i64_in _ (by omega)
  have hKe : r.base + (16 * r.n + 2) = K + 2 := by omega
  have hgl : lget m (K + 2) 2 < 65536 := lget_lt m _ 2
  by_cases h1 : lget m (r.base + (16 * r.n + 2)) 2 = r.off
  · have e : r.take m = (⟨0, [], 2⟩, r) := by unfold Ring.take; rw [if_pos h1]
    rw [e]
    rw [hKe] at h1
    have d1 : (((lget m (K + 2) 2 : Nat) : Int) == ((r.off : Nat) : Int)) = true := by rw [h1]; simp
    generalize lget m (K + 2) 2 = hd at *
    clear fit hqs h1 e hm hKe hK ob ub
    have Hs := hid h
    have Hrd := hid hrd
    clear h hrd
    go_enter Try.func34, Try.ntmps34
    go_wp2
    go_quiet (fail)
    have H1 := hid (sat_dn.2 Hs.out : SatL (w.drewN nq) _)
    have Q2 := q2 (w.drewN nq) (RdB.drewN Hrd.out nq)
    clear Hs Hrd q2 c0 c1 c2 c3 w1 w2
    generalize w.drewN nq = wA at *
    obtain ⟨c0, c1, c2, c3, _⟩ := XDevR.cells H1.out
    go_wp2
    go_quiet (first | (go_at_call 43; (with_reducible exact Q2 _)))
    go_wp2
    go_ret3
    exact Ret.mk ⟨_, rfl, SlK_nil (sat_dn.2 H1.out)⟩
  · have e : r.take m = match takeL m r.base r.n r.n (r.headAt m) [] with | none => (⟨0, [], 15⟩, r.step) | some l => (⟨r.headAt m, l, 0⟩, r.step) := by unfold Ring.take; rw [if_neg h1]; rfl
    rw [hKe] at h1
    have d1 : (((lget m (K + 2) 2 : Nat) : Int) == ((r.off : Nat) : Int)) = false := by simp; omega
    have d1b : ¬ ((lget m (K + 2) 2 : Nat) : Int) = ((r.off : Nat) : Int) := by omega
    obtain ⟨q, hq⟩ : ∃ q, q = r.off % r.n := ⟨_, rfl⟩
    have hqn : q < r.n := by rw [hq]; exact Nat.mod_lt _ (by omega)
    have e1 : Int.tmod (r.off : Int) (r.n : Int) = (q : Int) := by rw [Int.tmod_eq_emod_of_nonneg (by omega), hq]; rfl
    have e2 : (r.off : Int) % (r.n : Int) = (q : Int) := by rw [hq]; rfl
    have hnz : ¬ (r.n : Int) = 0 := by omega
    have hnz0 : ¬ r.n = 0 := by omega
    have hh : lget m (K + 4 + 2 * q) 2 = r.headAt m := by unfold Ring.headAt; rw [← hq, hK]; congr 1; omega
    have q3 := fun (wA : World) (hr : RdB (.slice (some ⟨mb, o, none⟩) N c) m wA) (k : Nat) => quietR (n := k) (reflem_ok (w := wA.drewN k) (a := K + 4 + 2 * q) (k := 2) (.inr (.inl rfl)) (by omega) (by omega) (RdB.drewN hr k))
    simp only [show ((K + 4 + 2 * q : Nat) : Int) = (K : Int) + 4 + 2 * (q : Int) by omega, hh, show ((2 : Nat) : Int) = 2 from rfl] at q3
    have hhd : r.headAt m < 65536 := lget_lt m _ 2
    have hro : (r.off + 1) % 65536 < 65536 := Nat.mod_lt _ (by omega)
    have e3 : Int.tmod ((r.off : Int) + 1) 65536 = (((r.off + 1) % 65536 : Nat) : Int) := by rw [Int.tmod_eq_emod_of_nonneg (by omega)]; omega
    have e4 : ((r.off : Int) + 1) % 65536 = (((r.off + 1) % 65536 : Nat) : Int) := by omega
    have hset : Hid (∀ (w' : World) (X : List HP), SatL w' (XDevR vb mb o N c r :: X) → SatL (w'.setCell ⟨vb, 3, none⟩ (.int .i64 ((r.off + 1) % 65536 : Nat))) (XDevR vb mb o N c r.step :: X)) := hid (fun w' X h => SatL.set h (i := 3) (.int .i64 ((r.off + 1) % 65536 : Nat)))
    have hcl := hid (fun (w' : World) (X : List HP) (h : SatL w' (XDevR vb mb o N c r :: X)) => (⟨XDevR.cells h, SatL.free h 3⟩ : _ ∧ _))
    have hcl2 : Hid (∀ (w' : World) (X : List HP), SatL w' (XDevR vb mb o N c r.step :: X) → w'.cell? ⟨vb, 0, none⟩ = some (.slice (some ⟨mb, o, none⟩) N c) ∧ w'.cell? ⟨vb, 1, none⟩ = some (.int .i64 r.base) ∧ w'.cell? ⟨vb, 2, none⟩ = some (.int .i64 r.n)) := hid (fun w' X h => ⟨(XDevR.cells h).1, (XDevR.cells h).2.1, (XDevR.cells h).2.2.1⟩)
    have hg8 := hid (fun (w' : World) (X : List HP) (a : Nat) (ha : a + 8 ≤ m.length) (h : SatL w' (SlB 5 (.slice (some ⟨mb, o, none⟩) N c) m :: X)) => refle_in (k := 8) (at_ := a) (.inr (.inr (.inr rfl))) ha (SlB.rd h))
    have hg := hid (fun (w' : World) (X : List HP) (a k : Nat) (hk : sizeOk k) (hk4 : k ≤ 4) (ha : a + k ≤ m.length) (h : SatL w' (SlB 5 (.slice (some ⟨mb, o, none⟩) N c) m :: X)) => reflem_ok (k := k) (a := a) hk hk4 ha (SlB.rd h))
    have Hfit : Hid (r.base + (8 + 26 * r.n) ≤ m.length ∧ m.length ≤ 1000000) := hid ⟨by rw [← hqs]; exact fit, hm⟩
    have w4 : IntKind.i64.wrap ((K : Int) + 4) = (K : Int) + 4 := IntWalk.i64_in _ (by omega)
    have w5 : IntKind.i64.wrap (q : Int) = (q : Int) := IntWalk.i64_in _ (by omega)
    have w6 : IntKind.i64.wrap (2 * (q : Int)) = 2 * (q : Int) := IntWalk.i64_in _ (by omega)
    have w7 : IntKind.i64.wrap ((K : Int) + 4 + 2 * (q : Int)) = (K : Int) + 4 + 2 * (q : Int) := IntWalk.i64_in _ (by omega)
    have hoz : (r.off : Int) < 65536 := by omega
    generalize lget m (K + 2) 2 = hd at *
    generalize r.headAt m = hv at *
    have He := hid e
    clear e
    generalize r.take m = res at *
    generalize hro2 : (r.off + 1) % 65536 = ro at *
    have hroz : (ro : Int) < 65536 := by omega
    have E34 := hid (And.intro e3 (And.intro e4 (And.intro hoz hroz)))
    have H0 := hid h
    have Hrd := hid hrd
    have Hn := hid hn
    have Hhd := hid hhd
    have Hqz := hid (show (q : Int) < 256 by omega)
    clear h hrd h1 fit ob ub pw hq hh hqs hn hm hKe hK e3 e4 hoz hroz hro hro2 hgl hhd
    go_enter Try.func34, Try.ntmps34
    go_wp2
    go_quiet (fail)
    have H1 := hid (sat_dn.2 H0.out : SatL (w.drewN nq) _)
    have Q2 := q2 (w.drewN nq) (RdB.drewN Hrd.out nq)
    have Hrd1 := hid (RdB.drewN Hrd.out nq)
    clear H0 Hrd q2 c0 c1 c2 c3 w1 w2
    generalize w.drewN nq = wA at *
    obtain ⟨⟨c0, c1, c2, c3, _⟩, _⟩ := hcl.out _ _ H1.out
    go_wp2
    go_quiet (first | (go_at_call 43; (with_reducible exact Q2 _)))
    have H2 := hid (sat_dn.2 H1.out : SatL (wA.drewN nq) _)
    have Q3 := q3 (wA.drewN nq) (RdB.drewN Hrd1.out nq)
    clear H1 Hrd1 Q2 q3 c0 c1 c2 c3 w3 d1 d1b
    generalize wA.drewN nq = wB at *
    obtain ⟨⟨c0, c1, c2, c3, _⟩, _⟩ := hcl.out _ _ H2.out
    go_wp2
    go_quiet (first | (go_at_call 43; (with_reducible exact Q3 _)))
    have H3 := (sat_dn.2 H2.out : SatL (wB.drewN nq) _)
    clear H2 Q3 c0 c1 c2 c3 w4 w5 w6 w7 e1 e2 hqn Hqz
    generalize wB.drewN nq = wC at *
    obtain ⟨⟨c0, c1, c2, c3, _⟩, g3⟩ := hcl.out _ _ H3
    have H4 := hid (hset.out _ _ H3)
    clear hset H3 hcl
    obtain ⟨e3, e4, hoz, hroz⟩ := E34.out
    go_wp2
    clear e3 e4 hoz hroz E34 c0 c1 c2 c3 g3
    go_loopw [7, 8] (fun out i wr => ∃ (f j : Nat) (l : List Bf), j < 65536 ∧ i = .int .i64 j ∧ l.length + f = r.n ∧ takeL m r.base r.n f j l = takeL m r.base r.n r.n hv [] ∧ SatL wr (BufR out l :: XDevR vb mb o N c r.step :: SlB 5 (.slice (some ⟨mb, o, none⟩) N c) m :: L)) (fun out _ _ => 300 - lenV out)
    case atStart => exact ⟨r.n, hv, [], Hhd.out, rfl, by simp, rfl, SlK_nil H4.out⟩
    case round =>
      clear H4
      obtain ⟨f, j, l, hj, rfl, hl, hT, hs⟩ := hrel
      obtain ⟨c0, c1, c2⟩ := hcl2.out _ _ hs.tail
      obtain ⟨la, lc, rfl, l1, l2⟩ := SlK.valn hs
      by_cases hjn : r.n ≤ j
      · have hN : takeL m r.base r.n r.n hv [] = none := by
          rw [← hT]; cases f with
          | zero => rfl
          | succ f => unfold takeL; rw [if_pos hjn]
        have e := He.out
        rw [hN] at e
        subst e
        have hz : (r.n : Int) ≤ j := by omega
        have HT := hid (SatL.tail hs)
        clear hT hs hN hg
        go_wp2
        go_ret3
        exact Ret.mk ⟨_, rfl, SlK_nil HT.out⟩
      cases f with
      | zero =>
        have hN : takeL m r.base r.n r.n hv [] = none := by rw [← hT]; rfl
        have e := He.out
        rw [hN] at e
        subst e
        have hz : ¬ (r.n : Int) ≤ j := by omega
        have hz2 : r.n ≤ l.length := by omega
        have hz3 : (r.n : Int) ≤ l.length := by omega
        have HT := hid (SatL.tail hs)
        clear hT hs hN hg hl
        go_wp2
        go_ret3
        exact Ret.mk ⟨_, rfl, SlK_nil HT.out⟩
      | succ f =>
        have hz : ¬ (r.n : Int) ≤ j := by omega
        have hz2 : ¬ (r.n : Int) ≤ l.length := by omega
        have hln : ¬ r.n ≤ l.length := by omega
        have hF := Hfit.out
        have q1 := hg8.out wr _ (r.base + 16 * j) (by omega) (hs.pull 2)
        have q2 := hg.out wr _ (r.base + 16 * j + 12) 2 (.inr (.inl rfl)) (by omega) (by omega) (hs.pull 2)
        have q3 := hg.out wr _ (r.base + 16 * j + 8) 4 (.inr (.inr (.inl rfl))) (by omega) (by omega) (hs.pull 2)
        have q4 := hid (fun (w' : World) (L' : List HP) (h : SatL w' (SlB 5 (.slice (some ⟨mb, o, none⟩) N c) m :: L')) => hg.out w' L' (r.base + 16 * j + 14) 2 (.inr (.inl rfl)) (by omega) (by omega) h)
        have el : leN ((m.drop (r.base + 16 * j)).take 8) = lget m (r.base + 16 * j) 8 := rfl
        rw [el, show ((r.base + 16 * j : Nat) : Int) = (r.base : Int) + 16 * (j : Int) by omega, show ((8 : Nat) : Int) = 8 from rfl] at q1
        rw [show ((r.base + 16 * j + 12 : Nat) : Int) = (r.base : Int) + 16 * (j : Int) + 12 by omega, show ((2 : Nat) : Int) = 2 from rfl] at q2
        rw [show ((r.base + 16 * j + 8 : Nat) : Int) = (r.base : Int) + 16 * (j : Int) + 8 by omega, show ((4 : Nat) : Int) = 4 from rfl] at q3
        simp only [show ((r.base + 16 * j + 14 : Nat) : Int) = (r.base : Int) + 16 * (j : Int) + 14 by omega, show ((2 : Nat) : Int) = 2 from rfl] at q4
        have hT2 : (if 4611686018427387904 < lget m (r.base + 16 * j) 8 then none else
            if lget m (r.base + 16 * j + 12) 2 % 2 = 0 then some (l ++ [⟨lget m (r.base + 16 * j) 8, lget m (r.base + 16 * j + 8) 4, decide (lget m (r.base + 16 * j + 12) 2 / 2 % 2 = 1)⟩])
            else takeL m r.base r.n f (lget m (r.base + 16 * j + 14) 2) (l ++ [⟨lget m (r.base + 16 * j) 8, lget m (r.base + 16 * j + 8) 4, decide (lget m (r.base + 16 * j + 12) 2 / 2 % 2 = 1)⟩])) = takeL m r.base r.n r.n hv [] := by
          rw [← hT]; show _ = (if _ then _ else _); rw [if_neg hjn]; rfl
        have b1 : lget m (r.base + 16 * j + 8) 4 < 4294967296 := lget_lt m _ 4
        have b2 : lget m (r.base + 16 * j + 12) 2 < 65536 := lget_lt m _ 2
        have b3 : lget m (r.base + 16 * j + 14) 2 < 65536 := lget_lt m _ 2
        have g2 := and2_i64 _ b2
        have g1 := and1_i64 _ b2
        have hjz : (j : Int) ≤ 256 := by omega
        clear el
        generalize lget m (r.base + 16 * j + 8) 4 = xl at *
        generalize lget m (r.base + 16 * j + 14) 2 = xn at *
        generalize lget m (r.base + 16 * j + 12) 2 = xf at *
        generalize lget m (r.base + 16 * j) 8 = xa at *
        have Hl := hid hl
        have hlb : l.length < 256 := by have := Hn.out; omega
        clear hl hF
        by_cases hbig : 4611686018427387904 < xa
        · rw [if_pos hbig] at hT2
          have e := He.out
          rw [← hT2] at e
          subst e
          have hbz : (4611686018427387904 : Int) < xa := by omega
          have HT := hid (SatL.tail hs)
          clear hT hT2 hs hg q2 q3 q4 g1 g2 He hbig b1 b2 b3
          go_wp2_with (first
            | (go_at_call 44; (with_reducible refine q1.mono ?_); rintro e w3 ⟨rfl, rfl⟩))
          go_ret3
          exact Ret.mk ⟨_, rfl, SlK_nil HT.out⟩
        · rw [if_neg hbig] at hT2
          have hbz : ¬ (4611686018427387904 : Int) < xa := by omega
          have hbz2 : (xa : Int) ≤ 4611686018427387904 := by omega
          have wa : IntKind.i64.wrap (xa : Int) = (xa : Int) := IntWalk.i64_in _ (by omega)
          obtain ⟨wb, hwb⟩ : ∃ wb : Bool, wb = decide (xf / 2 % 2 = 1) := ⟨_, rfl⟩
          have g3 : ((((2 * (xf / 2 % 2) : Nat)) : Int) != 0) = wb := by
            rw [hwb]
            by_cases hx : xf / 2 % 2 = 1
            · rw [hx]; rfl
            · have : xf / 2 % 2 = 0 := by omega
              rw [this]; rfl
          rw [← hwb] at hT2
          clear hwb
          generalize 2 * (xf / 2 % 2) = xg at *
          have hs1 := hs.alloc (.cells #[.int .i64 xa, .int .i64 xl, .bool wb] 36)
          have hsrc := SrcOk.ofCl (n := 1) (k := 3) elem_buf.under hs1 rfl 1
          have hKk := SatL.swap hs1
          have hone := hid (show ∀ y ∈ #[Value.int .i64 xa, .int .i64 xl, .bool wb].toList, y.oneCell' = true by intro y hy; simp at hy; rcases hy with rfl | rfl | rfl <;> rfl)
          have e1 : (l.length + 1) * 24 ≤ 140737488355328 := by omega
          have e2 : l.length + 1 ≤ maxLen := by unfold maxLen; omega
          have hsn := hid (bufV_snoc l ⟨xa, xl, wb⟩)
          have HT := hid hT2
          have B3 := hid b3
          clear hT hT2 hs hg hbig b1 b2 b3
          by_cases hev : xf % 2 = 0
          · have g1z : ((xf % 2 : Nat) : Int) = 0 := by omega
            rw [g1z] at g1
            have e := He.out
            rw [← HT.out, if_pos hev] at e
            subst e
            clear He HT hev
            go_wp2_with (first
              | (go_at_call 44; (with_reducible refine q1.mono ?_); rintro e w3 ⟨rfl, rfl⟩)
              | (go_at_call 43; (with_reducible refine q2.mono ?_); rintro e w3 ⟨v, rfl, rfl, rfl⟩)
              | (go_at_call 43; (with_reducible refine q3.mono ?_); rintro e w3 ⟨v, rfl, rfl, rfl⟩)
              | (at_builtin; refine wpList_append_sl rfl (.tmp 103) (.tmp 117) rfl elem_buf rfl hKk rfl hsrc hone.out e1 e2 ?_; intro v9 w9 h9 _))
            go_ret3
            have h10 := SatL.tail h9.swap
            have h11 : SatL w9 (BufR v9 (l ++ [⟨xa, xl, wb⟩]) :: XDevR vb mb o N c r.step :: SlB 5 (.slice (some ⟨mb, o, none⟩) N c) m :: L) := by
              show SatL w9 (SlK _ _ _ _ _ :: _)
              rw [hsn.out, List.length_append]; exact h10
            exact Ret.mk ⟨_, rfl, h11⟩
          · have g1z : ((xf % 2 : Nat) : Int) = 1 := by omega
            rw [g1z] at g1
            have HT2 := hid (by have e := HT.out; rw [if_neg hev] at e; exact e)
            clear HT hev
            go_wp2_with (first
              | (go_at_call 44; (with_reducible refine q1.mono ?_); rintro e w3 ⟨rfl, rfl⟩)
              | (go_at_call 43; (with_reducible refine q2.mono ?_); rintro e w3 ⟨v, rfl, rfl, rfl⟩)
              | (go_at_call 43; (with_reducible refine q3.mono ?_); rintro e w3 ⟨v, rfl, rfl, rfl⟩)
              | (at_builtin; refine wpList_append_sl rfl (.tmp 103) (.tmp 117) rfl elem_buf rfl hKk rfl hsrc hone.out e1 e2 ?_; intro v9 w9 h9 _; have h10 := SatL.tail h9.swap; have q5 := q4.out _ _ h10.tail.tail; obtain ⟨d0, d1, d2⟩ := hcl2.out _ _ h10.tail; obtain ⟨va, vc, rfl, v1, v2⟩ := SlK.valn h10)
              | (go_at_call 43; (with_reducible refine q5.mono ?_); rintro e w3 ⟨v, rfl, rfl, rfl⟩))
            go_roundw
            case rel =>
              refine ⟨f, xn, l ++ [⟨xa, xl, wb⟩], B3.out, rfl, by have := Hl.out; rw [List.length_append]; simp; omega, HT2.out, ?_⟩
              show SatL _ (SlK _ _ _ _ _ :: _)
              rw [hsn.out, List.length_append]; exact h10
            case measure => simp [lenV]; omega
end
end Go.Proofs.Ytnniipeoahpkcaa
