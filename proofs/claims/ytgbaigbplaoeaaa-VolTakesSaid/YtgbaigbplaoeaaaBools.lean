/- Rows of bools, told by a function; the first that is false. Plain mathematics and the one resource. -/
import Derived.Test.YtgbaigbplaoeaaaSlice
namespace Go.Proofs.Ytgbaigbplaoeaaa
set_option linter.unusedVariables false
set_option linter.unusedSimpArgs false
open Go.RowKit
/-- the first n of u -/
def bl (n : Nat) (u : Nat → Bool) : List Value := (List.range n).map fun j => .bool (u j)
theorem bl_len (n : Nat) (u : Nat → Bool) : (bl n u).length = n := by simp [bl]
theorem bl_get {n j : Nat} {u : Nat → Bool} (h : j < n) : (bl n u)[j]? = some (.bool (u j)) := by simp [bl, h]
theorem bl_set {n j : Nat} {u : Nat → Bool} (v : Bool) : (bl n u).set j (.bool v) = bl n (fun t => if t = j then v else u t) := by
  apply List.ext_getElem?
  intro q
  rw [List.getElem?_set]
  by_cases hq : q < n
  · rw [bl_get hq, bl_get hq]
    by_cases hqj : j = q
    · subst hqj; rw [if_pos rfl, if_pos (by rw [bl_len]; exact hq), if_pos rfl]
    · rw [if_neg hqj, if_neg (fun e => hqj e.symm)]
  · have e : ∀ u, (bl n u)[q]? = none := fun u => List.getElem?_eq_none (by rw [bl_len]; omega)
    rw [e, e]
    split
    · rw [if_neg (by rw [bl_len]; omega)]
    · rfl
theorem bl_zero (n : Nat) : List.replicate n (Value.bool false) = bl n (fun _ => false) := by
  apply List.ext_getElem?
  intro q
  by_cases hq : q < n
  · rw [bl_get hq, List.getElem?_replicate, if_pos hq]
  · rw [List.getElem?_eq_none (by simp; omega), List.getElem?_eq_none (by rw [bl_len]; omega)]
theorem bl_congr {n : Nat} {u v : Nat → Bool} (h : ∀ j, j < n → u j = v j) : bl n u = bl n v := by
  unfold bl
  apply List.map_congr_left
  intro j hj
  rw [h j (by simpa using hj)]
/-- the first that is false, up to n -/
theorem least (u : Nat → Bool) (n : Nat) : ∃ m, m ≤ n ∧ (∀ j, j < m → u j = true) ∧ (m < n → u m = false) := by
  induction n with
  | zero => exact ⟨0, Nat.le_refl _, fun j hj => by omega, fun h => by omega⟩
  | succ n ih =>
    obtain ⟨m, h1, h2, h3⟩ := ih
    by_cases hm : m < n
    · exact ⟨m, by omega, h2, fun _ => h3 hm⟩
    · obtain rfl : m = n := by omega
      cases hu : u m with
      | false => exact ⟨m, by omega, h2, fun _ => hu⟩
      | true =>
        refine ⟨m + 1, by omega, fun j hj => ?_, fun h => by omega⟩
        by_cases hjm : j = m
        · rw [hjm]; exact hu
        · exact h2 j (by omega)
end Go.Proofs.Ytgbaigbplaoeaaa
