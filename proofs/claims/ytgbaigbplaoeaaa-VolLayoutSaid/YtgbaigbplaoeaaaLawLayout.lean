/- VolLayout: for every input it returns true and writes nothing that was there. No condition. -/
import Derived.Test.YtgbaigbplaoeaaaVolS
import Derived.Test.YtgbaigbplaoeaaaKnown9
import Derived.Test.YtgbaigbplaoeaaaSuper
import Derived.Test.YtgbaigbplaoeaaaWithin9
import Derived.Test.YtgbaigbplaoeaaaLawReads
namespace Go.Proofs.Ytgbaigbplaoeaaa
set_option linter.unusedVariables false
set_option linter.unusedSimpArgs false
open Go.RowKit

theorem leN_lowb4 {n : Nat} (h : n < 4294967296) : leN (lowb 4 n) = n := by
  rw [leN_lowb]; exact Nat.mod_eq_of_lt (by show n < 256 ^ 4; exact Nat.lt_of_lt_of_eq h (by decide))
theorem take_drop_mid {α : Type} (a m c : List α) : ((a ++ m ++ c).drop a.length).take m.length = m := by
  rw [List.append_assoc, List.drop_left, List.take_left]
theorem encB_parts (b i : Nat) : (encB b i).take 8 = word8 ∧ ((encB b i).drop 8).take 4 = lowb 4 b ∧ ((encB b i).drop 12).take 4 = lowb 4 i ∧ ((encB b i).drop 508).take 4 = lowb 4 (crcN (supBody b i)) ∧ (encB b i).take 508 = supBody b i := by
  have e1 : encB b i = [] ++ word8 ++ (lowb 4 b ++ (lowb 4 i ++ (List.replicate 492 0 ++ lowb 4 (crcN (supBody b i))))) := by
    unfold encB
    generalize lowb 4 (crcN (supBody b i)) = C
    unfold supBody supHead
    simp only [List.append_assoc, List.nil_append]
  have e2 : encB b i = word8 ++ lowb 4 b ++ (lowb 4 i ++ (List.replicate 492 0 ++ lowb 4 (crcN (supBody b i)))) := by rw [e1]; simp only [List.append_assoc, List.nil_append]
  have e3 : encB b i = (word8 ++ lowb 4 b) ++ lowb 4 i ++ (List.replicate 492 0 ++ lowb 4 (crcN (supBody b i))) := by rw [e1]; simp only [List.append_assoc, List.nil_append]
  have e4 : encB b i = supBody b i ++ lowb 4 (crcN (supBody b i)) ++ [] := by rw [List.append_nil]; rfl
  have l0 : word8.length = 8 := rfl
  have l1 := supBody_len b i
  refine ⟨?_, ?_, ?_, ?_, ?_⟩
  · rw [e1, List.nil_append]; exact List.take_left' l0
  · have := take_drop_mid word8 (lowb 4 b) (lowb 4 i ++ (List.replicate 492 0 ++ lowb 4 (crcN (supBody b i))))
    rw [← e2, l0, lowb_len] at this; exact this
  · have := take_drop_mid (word8 ++ lowb 4 b) (lowb 4 i) (List.replicate 492 0 ++ lowb 4 (crcN (supBody b i)))
    rw [← e3, List.length_append, l0, lowb_len, lowb_len] at this; exact this
  · have := take_drop_mid (supBody b i) (lowb 4 (crcN (supBody b i))) []
    rw [← e4, l1, lowb_len] at this; exact this
  · exact List.take_left' l1
theorem dec_enc {b i : Nat} (hg : planGood b i) (he : planErr b i = 0) : decE (encB b i) = 0 ∧ decV (encB b i) = planV b i (tableOf b) (dataOf b i) := by
  obtain ⟨h1, h2, h3, h4, h5⟩ := encB_parts b i
  obtain ⟨g1, g2, g3, g4, g5⟩ := hg
  have hB : decB (encB b i) = b := by unfold decB; rw [h2]; exact leN_lowb4 (by omega)
  have hI : decI (encB b i) = i := by unfold decI; rw [h3]; exact leN_lowb4 (by omega)
  have hS : decS (encB b i) = crcN (supBody b i) := by unfold decS; rw [h4]; exact leN_lowb4 (crcN_lt _)
  have hE : decE (encB b i) = 0 := by
    unfold decE
    rw [if_neg (by rw [hB, hI, h1, he]; simp), if_neg (by rw [hS, h5]; simp)]
  refine ⟨hE, ?_⟩
  unfold decV
  rw [if_pos hE, hB, hI]
theorem nfree_used {b dt : Nat} (m : Nat) : nfree (usedP b dt) m = min m b - min m (dt + 1) := by
  induction m with
  | zero => rfl
  | succ m ih =>
    simp only [nfree, ih, usedP]
    by_cases h1 : m ≤ dt <;> by_cases h2 : b ≤ m <;> simp [h1, h2] <;> omega
theorem nfree_im {i : Nat} (m : Nat) : nfree (imP i) m = min m i - min m 2 := by
  induction m with
  | zero => rfl
  | succ m ih =>
    simp only [nfree, ih, imP]
    by_cases h1 : m < 2 <;> by_cases h2 : i ≤ m <;> simp [h1, h2] <;> omega

set_option maxRecDepth 100000 in
set_option maxHeartbeats 4000000 in
theorem layout_walk (a0 a1 : Int) (w : World) :
    Calls Try.prog 5 #[.int .i64 a0, .int .i64 a1] w (Ret fun v w' => v = .bool true ∧ SatL w' [old w]) := by
  have hk := known_ok (sat_old w)
  obtain ⟨b0, hb0, hw0⟩ := within_nat a0 9000 (by omega)
  obtain ⟨i0, hi0, hw1⟩ := within_nat a1 1000 (by omega)
  have hp0 := fun (w1 : World) (h : SatL w1 [old w]) => plan_ok h (128 + b0) (8 + 4 * i0)
  obtain ⟨b, hb⟩ : ∃ b : Nat, (128 : Int) + b0 = b := ⟨128 + b0, by omega⟩
  obtain ⟨i, hi⟩ : ∃ i : Nat, (8 : Int) + 4 * i0 = i := ⟨8 + 4 * i0, by omega⟩
  have hg : planGood b i := by unfold planGood; omega
  rw [hb, hi] at hp0
  have nb1 : 128 ≤ b ∧ b ≤ 9127 := by omega
  have ni1 : 8 ≤ i ∧ i ≤ 4004 := by omega
  by_cases he : planErr b i = 0
  · obtain ⟨n1, n2, n3, n4, n5, n6⟩ := VolR.nat hg he
    obtain ⟨q1, q2, q3, q4, q5⟩ := plan_nat hg he
    have hsup := (planErr_cases he).2
    have hfr := fun (w1 : World) (L : List HP) (h : SatL w1 L) => fresh_vol hg he h
    have hfb := fun (w1 : World) (vb : Nat) (L : List HP) (h : SatL w1 (VolR vb b i (usedP b (dataN b i)) (imP i) :: L)) => volFreeB hg he h
    have hfi := fun (w1 : World) (vb : Nat) (L : List HP) (h : SatL w1 (VolR vb b i (usedP b (dataN b i)) (imP i) :: L)) => volFreeI hg he h
    have hen := fun (w1 : World) (L : List HP) (h : SatL w1 L) => encode_ok h b i (by omega) (by omega) (tableN b) (dataN b i)
    obtain ⟨d1, d2⟩ := dec_enc hg he
    have hde := fun (w1 : World) (v : Value) (L : List HP) (h : SatL w1 (SlB 5 v (encB b i) :: L)) => decode_ok (encB_len b i) h
    rw [d1, d2, q1, q2] at hde
    unfold PlanPost at hp0
    rw [hsup, he, q1, q2] at hp0
    have hnb : nfree (usedP b (dataN b i)) ((tableN b - 69) * 4096) = b - dataN b i - 1 := by rw [nfree_used]; omega
    have hni : nfree (imP i) 4096 = i - 2 := by rw [nfree_im]; omega
    rw [hnb] at hfb
    rw [hni] at hfi
    have e1 : ((b - dataN b i - 1 : Nat) : Int) = (b : Int) - dataN b i - 1 := by omega
    have e2 : ((i - 2 : Nat) : Int) = (i : Int) - 2 := by omega
    rw [e1] at hfb
    rw [e2] at hfi
    have t1 : ¬ (((tableN b : Int) - 69) * 4096 < b) := by omega
    have t2 : ((tableN b : Int) - 69 - 1) * 4096 < b := by unfold tableN; omega
    have t3 : ((dataN b i : Int) - tableN b) * 4 = i := by unfold dataN; have := hg.2.2.2.2; omega
    clear d1 d2 q1 q2 hsup hnb hni e1 e2 he hg
    generalize encB b i = eb at *
    generalize usedP b (dataN b i) = U at *
    generalize imP i = V at *
    generalize hT : tableN b = tb at *
    generalize hD : dataN b i = dt at *
    have HT := hid hT
    have HD := hid hD
    clear hT hD
    rw [planV] at hp0
    simp only [planV] at hen hde
    have t0 : True := trivial
    by_cases hbig : (2000 : Int) < b
    · go_enter Try.func5, Try.ntmps5
      go_wp2_with (first
        | (go_at_call 8; (with_reducible refine hk.mono ?_); rintro e w1 ⟨v, rfl, rfl, hs1⟩)
        | (have _t := t0; go_at_call 14; (with_reducible refine (hw0 _).mono ?_); rintro e w2 ⟨rfl, rfl⟩; clear t0)
        | (go_at_call 14; (with_reducible refine (hw1 _).mono ?_); rintro e w2 ⟨rfl, rfl⟩)
        | (go_at_call 25; (with_reducible refine (hp0 _ hs1).mono ?_); rintro e w3 ⟨v, rfl, rfl, hs3⟩))
      go_ret
      exact Ret.mk ⟨rfl, SatL.tail (hs3.alloc (.cells #[.int .i64 b, .int .i64 i, .int .i64 1, .int .i64 2, .int .i64 68, .int .i64 69, .int .i64 tb, .int .i64 dt] 30))⟩
    · go_enter Try.func5, Try.ntmps5
      go_wp2_with (first
        | (go_at_call 8; (with_reducible refine hk.mono ?_); rintro e w1 ⟨v, rfl, rfl, hs1⟩)
        | (have _t := t0; go_at_call 14; (with_reducible refine (hw0 _).mono ?_); rintro e w2 ⟨rfl, rfl⟩; clear t0)
        | (go_at_call 14; (with_reducible refine (hw1 _).mono ?_); rintro e w2 ⟨rfl, rfl⟩)
        | (go_at_call 25; (with_reducible refine (hp0 _ hs1).mono ?_); rintro e w3 ⟨v, rfl, rfl, hs3⟩; have k3 := hs3.alloc (.cells #[.int .i64 b, .int .i64 i, .int .i64 1, .int .i64 2, .int .i64 68, .int .i64 69, .int .i64 tb, .int .i64 dt] 30))
        | (go_at_call 26; (with_reducible refine (hfr _ _ k3).mono ?_); rintro e w4 ⟨v, rfl, vb, rfl, hs4⟩)
        | (go_at_call 23; (with_reducible refine (hfb _ _ _ hs4).mono ?_); rintro e w5 ⟨v, rfl, rfl, hs5⟩)
        | (go_at_call 24; (with_reducible refine (hfi _ _ _ hs5).mono ?_); rintro e w6 ⟨v, rfl, rfl, hs6⟩; obtain ⟨c0, c1, c2, c3, c4, c5, c6, c7⟩ := cells8 (SatL.pull hs6 1 : SatL w6 (cl _ _ _ :: _)))
        | (go_at_call 27; (with_reducible refine (hen _ _ hs6).mono ?_); rintro e w7 ⟨v7, rfl, hs7⟩)
        | (go_at_call 11; (with_reducible refine (hde _ _ _ hs7).mono ?_); rintro e w8 ⟨v, rfl, rfl, hs8⟩; have k8 := (hs8.alloc (.cells #[.int .i64 b, .int .i64 i, .int .i64 1, .int .i64 2, .int .i64 68, .int .i64 69, .int .i64 tb, .int .i64 dt] 30)).pull 3; obtain ⟨e0, e1, e2, e3, e4, e5, e6, e7⟩ := cells8 k8))
      go_ret
      exact Ret.mk ⟨rfl, SatL.tail (SatL.tail (SatL.tail (SatL.tail k8)))⟩
  · have hpe : planErr b i = 14 := by
      unfold planErr at he ⊢
      rw [if_pos hg] at he ⊢
      split at he
      · rename_i h; rw [if_pos h]
      · exact absurd rfl he
    have hsz : (b : Int) < dataOf b i + 8 := by
      unfold planErr at he
      rw [if_pos hg] at he
      split at he
      · rename_i h; exact h
      · exact absurd rfl he
    unfold dataOf tableOf at hsz
    have hsup : planSup b i = noplan := by unfold planSup; rw [if_neg he]
    unfold PlanPost at hp0
    rw [hsup, hpe, noplan] at hp0
    clear hsup he hpe hg
    have t0 : True := trivial
    go_enter Try.func5, Try.ntmps5
    go_wp2_with (first
      | (go_at_call 8; (with_reducible refine hk.mono ?_); rintro e w1 ⟨v, rfl, rfl, hs1⟩)
      | (have _t := t0; go_at_call 14; (with_reducible refine (hw0 _).mono ?_); rintro e w2 ⟨rfl, rfl⟩; clear t0)
      | (go_at_call 14; (with_reducible refine (hw1 _).mono ?_); rintro e w2 ⟨rfl, rfl⟩)
      | (go_at_call 25; (with_reducible refine (hp0 _ hs1).mono ?_); rintro e w3 ⟨v, rfl, rfl, hs3⟩))
    go_ret
    exact Ret.mk ⟨rfl, SatL.tail (hs3.alloc (.cells #[.int .i64 0, .int .i64 0, .int .i64 0, .int .i64 0, .int .i64 0, .int .i64 0, .int .i64 0, .int .i64 0] 30))⟩
end Go.Proofs.Ytgbaigbplaoeaaa
