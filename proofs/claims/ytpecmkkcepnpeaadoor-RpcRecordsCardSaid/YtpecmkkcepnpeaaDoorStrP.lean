/- rpc, plain: a stream of marked records, fed in pieces. No condition beside the sizes. -/
import Derived.Test.YtpecmkkcepnpeaaDoorRecM
namespace Go.Proofs.YtpecmkkcepnpeaaDoor
set_option linter.unusedVariables false
set_option linter.unusedSimpArgs false
open Go.RowKit
/-- what has been fed comes to the same, piece by piece -/
theorem recQ_inc : ∀ (n : Nat) (r row : List UInt8) (out : List (List UInt8)) (c : List UInt8), r.length ≤ n → (recQ r row out).long = false →
    recQ (r ++ c) row out = recQ ((recQ r row out).rest ++ c) (recQ r row out).row (recQ r row out).out := by
  intro n
  induction n with
  | zero =>
    intro r row out c hn hl
    obtain rfl : r = [] := List.eq_nil_of_length_eq_zero (by omega)
    rw [recQ_nil]
  | succ n ih =>
    intro r row out c hn hl
    by_cases h4 : 4 ≤ r.length
    · have ht : (r ++ c).take 4 = r.take 4 := by rw [List.take_append_of_le_length h4]
      have hV : headV (r ++ c) = headV r := by unfold headV; rw [ht]
      have hN : headN (r ++ c) = headN r := by unfold headN; rw [hV]
      by_cases h5 : 16384 < row.length + headN r
      · rw [recQ_long h4 h5] at hl
        cases hl
      · by_cases h6 : r.length < 4 + headN r
        · rw [recQ_part h4 h5 h6]
        · have hd : (r.drop (4 + headN r)).length = r.length - (4 + headN r) := List.length_drop
          have e1 : (r ++ c).drop (4 + headN r) = r.drop (4 + headN r) ++ c := by rw [List.drop_append_of_le_length (by omega)]
          have e2 : ((r ++ c).drop 4).take (headN r) = (r.drop 4).take (headN r) := by
            rw [List.drop_append_of_le_length h4, List.take_append_of_le_length (by rw [List.length_drop]; omega)]
          by_cases h7 : 2147483648 ≤ headV r
          · rw [recQ_last h4 h5 h6 h7] at hl ⊢
            rw [recQ_last (by rw [List.length_append]; omega) (by rw [hN]; exact h5) (by rw [hN, List.length_append]; omega) (by rw [hV]; exact h7), hN, e1, e2]
            exact ih _ _ _ _ (by omega) hl
          · rw [recQ_more h4 h5 h6 h7] at hl ⊢
            rw [recQ_more (by rw [List.length_append]; omega) (by rw [hN]; exact h5) (by rw [hN, List.length_append]; omega) (by rw [hV]; exact h7), hN, e1, e2]
            exact ih _ _ _ _ (by omega) hl
    · rw [recQ_short h4]
theorem recQ_long_mono : ∀ (n : Nat) (r row : List UInt8) (out : List (List UInt8)) (c : List UInt8), r.length ≤ n → (recQ r row out).long = true → (recQ (r ++ c) row out).long = true := by
  intro n
  induction n with
  | zero =>
    intro r row out c hn hl
    obtain rfl : r = [] := List.eq_nil_of_length_eq_zero (by omega)
    rw [recQ_nil] at hl
    cases hl
  | succ n ih =>
    intro r row out c hn hl
    by_cases h4 : 4 ≤ r.length
    · have ht : (r ++ c).take 4 = r.take 4 := by rw [List.take_append_of_le_length h4]
      have hV : headV (r ++ c) = headV r := by unfold headV; rw [ht]
      have hN : headN (r ++ c) = headN r := by unfold headN; rw [hV]
      by_cases h5 : 16384 < row.length + headN r
      · rw [recQ_long (by rw [List.length_append]; omega) (by rw [hN]; exact h5)]
      · by_cases h6 : r.length < 4 + headN r
        · rw [recQ_part h4 h5 h6] at hl
          cases hl
        · have hd : (r.drop (4 + headN r)).length = r.length - (4 + headN r) := List.length_drop
          have e1 : (r ++ c).drop (4 + headN r) = r.drop (4 + headN r) ++ c := by rw [List.drop_append_of_le_length (by omega)]
          have e2 : ((r ++ c).drop 4).take (headN r) = (r.drop 4).take (headN r) := by
            rw [List.drop_append_of_le_length h4, List.take_append_of_le_length (by rw [List.length_drop]; omega)]
          by_cases h7 : 2147483648 ≤ headV r
          · rw [recQ_last h4 h5 h6 h7] at hl
            rw [recQ_last (by rw [List.length_append]; omega) (by rw [hN]; exact h5) (by rw [hN, List.length_append]; omega) (by rw [hV]; exact h7), hN, e1, e2]
            exact ih _ _ _ _ (by omega) hl
          · rw [recQ_more h4 h5 h6 h7] at hl
            rw [recQ_more (by rw [List.length_append]; omega) (by rw [hN]; exact h5) (by rw [hN, List.length_append]; omega) (by rw [hV]; exact h7), hN, e1, e2]
            exact ih _ _ _ _ (by omega) hl
    · rw [recQ_short h4] at hl
      cases hl
/-- what came out ahead only stands in front -/
theorem recQ_out : ∀ (n : Nat) (r row : List UInt8) (out : List (List UInt8)), r.length ≤ n → recQ r row out = ⟨(recQ r row []).rest, (recQ r row []).row, out ++ (recQ r row []).out, (recQ r row []).long⟩ := by
  intro n
  induction n with
  | zero =>
    intro r row out hn
    obtain rfl : r = [] := List.eq_nil_of_length_eq_zero (by omega)
    rw [recQ_nil, recQ_nil]
    simp
  | succ n ih =>
    intro r row out hn
    by_cases h4 : 4 ≤ r.length
    · by_cases h5 : 16384 < row.length + headN r
      · rw [recQ_long h4 h5, recQ_long h4 h5]; simp
      · by_cases h6 : r.length < 4 + headN r
        · rw [recQ_part h4 h5 h6, recQ_part h4 h5 h6]; simp
        · have hd : (r.drop (4 + headN r)).length = r.length - (4 + headN r) := List.length_drop
          by_cases h7 : 2147483648 ≤ headV r
          · rw [recQ_last h4 h5 h6 h7, recQ_last h4 h5 h6 h7, ih _ _ (out ++ _) (by omega), ih _ _ ([] ++ _) (by omega)]
            simp [List.append_assoc]
          · rw [recQ_more h4 h5 h6 h7, recQ_more h4 h5 h6 h7, ih _ _ out (by omega)]
    · rw [recQ_short h4, recQ_short h4]; simp
/-- a stream that is just these records -/
def Good (s : List UInt8) (W : List (List UInt8)) : Prop := ∀ (r : List UInt8) (out : List (List UInt8)), recQ (s ++ r) [] out = recQ r [] (out ++ W)
theorem Good.nil : Good [] [] := fun r out => by simp
theorem Good.mark {s x : List UInt8} {W : List (List UInt8)} (h : Good s W) (hx : x.length ≤ 16384) : Good (s ++ markB x) (W ++ [x]) := fun r out => by
  rw [List.append_assoc, h, recQ_mark (by simpa using hx), List.nil_append, List.append_assoc]
theorem Good.two {s y z : List UInt8} {W : List (List UInt8)} (h : Good s W) (hx : y.length + z.length ≤ 16384) : Good (s ++ pieceB y ++ markB z) (W ++ [y ++ z]) := fun r out => by
  rw [List.append_assoc, List.append_assoc, h, recQ_piece (by rw [List.length_nil]; omega), recQ_mark (by rw [List.nil_append]; exact hx), List.nil_append, List.append_assoc]
theorem Good.whole {s : List UInt8} {W : List (List UInt8)} (h : Good s W) : recQ s [] [] = ⟨[], [], W, false⟩ := by
  have := h [] []
  rw [List.append_nil, recQ_nil, List.nil_append] at this
  exact this
/-- the records' state behind a front of a good stream, and what has come out -/
def Fed (t : List UInt8) (st : RecS) (got : List (List UInt8)) : Prop := st.long = false ∧ recQ t [] [] = ⟨st.rest, st.row, got, false⟩
theorem Fed.nil : Fed [] RecS.new [] := ⟨rfl, recQ_nil _ _⟩
theorem Fed.add {t c R : List UInt8} {st : RecS} {got W : List (List UInt8)} (h : Fed t st got) (hg : Good (t ++ c ++ R) W) : (st.add c).2.1 = 0 ∧ Fed (t ++ c) (st.add c).2.2 (got ++ (st.add c).1) := by
  obtain ⟨h1, h2⟩ := h
  have hw := hg.whole
  have hl : (recQ (t ++ c) [] []).long = false := by
    cases hh : (recQ (t ++ c) [] []).long with
    | false => rfl
    | true =>
      have := recQ_long_mono _ _ _ _ R (Nat.le_refl _) hh
      rw [hw] at this
      cases this
  have hi := recQ_inc _ t [] [] c (Nat.le_refl _) (by rw [h2])
  rw [h2] at hi
  dsimp only at hi
  have ho := recQ_out _ (st.rest ++ c) st.row got (Nat.le_refl _)
  rw [ho] at hi
  rw [hi] at hl
  dsimp only at hl
  unfold RecS.add
  rw [if_neg (by rw [h1]; simp), if_neg (by rw [hl]; simp)]
  refine ⟨rfl, rfl, ?_⟩
  rw [hi, hl]
theorem Fed.done {t : List UInt8} {st : RecS} {got W : List (List UInt8)} (h : Fed t st got) (hg : Good t W) : got = W := by
  have h2 := h.2
  rw [hg.whole] at h2
  injection h2 with _ _ e _
  exact e.symm
theorem Fed.room {t : List UInt8} {st : RecS} {got : List (List UInt8)} (h : Fed t st got) : st.row.length ≤ 16384 ∧ st.rest.length ≤ t.length := by
  have := recQ_row (t.length + 1) t [] [] (by simp)
  have e : recGo (t.length + 1) t [] [] = ⟨st.rest, st.row, got, false⟩ := h.2
  rw [e] at this
  exact this
end Go.Proofs.YtpecmkkcepnpeaaDoor
