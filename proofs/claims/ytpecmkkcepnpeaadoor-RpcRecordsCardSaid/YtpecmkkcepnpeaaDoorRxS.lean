/- the document's Records, plain: a piece at a time. No condition. -/
import Derived.Test.YtpecmkkcepnpeaaDoorRecP
import Derived.Test.YtpecmkkcepnpeaaDoorRecB
namespace Go.Proofs.YtpecmkkcepnpeaaDoor
set_option linter.unusedVariables false
set_option linter.unusedSimpArgs false
open Go.RowKit
/-- what the document's Records hold of a stream's rest and row -/
def XRep (head : List UInt8) (left : Nat) (last piece : Bool) (B rest row : List UInt8) : Prop :=
  (piece = false ∧ head = rest ∧ rest.length < 4 ∧ B = row) ∨
  (piece = true ∧ head = [] ∧ ∃ h4 got, rest = h4 ++ got ∧ h4.length = 4 ∧ B = row ++ got ∧ left + got.length = headN h4 ∧ last = decide (2147483648 ≤ headV h4) ∧ row.length + headN h4 ≤ 16384 ∧ 0 < left)
theorem headV_app {h4 x : List UInt8} (h : h4.length = 4) : headV (h4 ++ x) = headV h4 := by
  unfold headV
  rw [List.take_append_of_le_length (by omega)]
theorem headN_app {h4 x : List UInt8} (h : h4.length = 4) : headN (h4 ++ x) = headN h4 := by unfold headN; rw [headV_app h]
theorem headV_four {h4 : List UInt8} (h : h4.length = 4) : headV h4 = beN h4 := by unfold headV; rw [List.take_of_length_le (by omega)]
section
variable {h4 got r row : List UInt8} {outs : List (List UInt8)}
theorem recQ_done (h : h4.length = 4) (hg : got.length = headN h4) (hl : row.length + headN h4 ≤ 16384) :
    recQ (h4 ++ got ++ r) row outs = if 2147483648 ≤ headV h4 then recQ r [] (outs ++ [row ++ got]) else recQ r (row ++ got) outs := by
  have hV : headV (h4 ++ got ++ r) = headV h4 := by rw [List.append_assoc, headV_app h]
  have hN : headN (h4 ++ got ++ r) = headN h4 := by rw [List.append_assoc, headN_app h]
  have hlen : (h4 ++ got ++ r).length = 4 + headN h4 + r.length := by rw [List.length_append, List.length_append, h, hg]
  have hd : (h4 ++ got ++ r).drop (4 + headN h4) = r := by
    rw [List.drop_append_of_le_length (by rw [List.length_append, h, hg]; omega), List.drop_of_length_le (by rw [List.length_append, h, hg]; omega)]
    rfl
  have ht : ((h4 ++ got ++ r).drop 4).take (headN h4) = got := by
    rw [List.append_assoc, List.drop_append_of_le_length (by omega), List.drop_of_length_le (by omega), List.nil_append, List.take_append_of_le_length (by omega), List.take_of_length_le (by omega)]
  split
  · rename_i h1
    rw [recQ_last (by omega) (by rw [hN]; omega) (by rw [hN]; omega) (by rw [hV]; exact h1), hN, hd, ht]
  · rename_i h1
    rw [recQ_more (by omega) (by rw [hN]; omega) (by rw [hN]; omega) (by rw [hV]; exact h1), hN, hd, ht]
theorem recQ_wait (h : h4.length = 4) (hg : got.length < headN h4) (hl : row.length + headN h4 ≤ 16384) : recQ (h4 ++ got) row outs = ⟨h4 ++ got, row, outs, false⟩ := by
  have hN : headN (h4 ++ got) = headN h4 := headN_app h
  have hlen : (h4 ++ got).length = 4 + got.length := by rw [List.length_append, h]
  exact recQ_part (by omega) (by rw [hN]; omega) (by rw [hN]; omega)
theorem recQ_over (h : h4.length = 4) (hl : 16384 < row.length + headN h4) : recQ (h4 ++ r) row outs = ⟨h4 ++ r, row, outs, true⟩ := by
  have hN : headN (h4 ++ r) = headN h4 := headN_app h
  exact recQ_long (by rw [List.length_append]; omega) (by rw [hN]; omega)
end
theorem head_mask (v : Nat) (hv : v < 4294967296) : bits .and .u64 (v : Int) 2147483647 = ((v % 2147483648 : Nat) : Int) := by
  have h := u64_and_nat v 2147483647 (by omega) (by omega)
  have e : ((2147483647 : Nat) : Int) = 2147483647 := rfl
  rw [e] at h
  rw [h]
  congr 1
  show v &&& (2 ^ 31 - 1) = v % 2 ^ 31
  exact Nat.and_two_pow_sub_one_eq_mod v 31
theorem head_top (v : Nat) (hv : v < 4294967296) : ((v : Int) / 2147483648 == 1) = decide (2147483648 ≤ v) := by
  by_cases h : 2147483648 ≤ v
  · rw [decide_eq_true h]; simp; omega
  · rw [decide_eq_false h]; simp; omega
end Go.Proofs.YtpecmkkcepnpeaaDoor
