/- s[i:j:m] of what is owned; blocks of a row read through a part of it. No condition. -/
import Derived.Test.YtjjnadlklfegcaaWalReq
namespace Go.Proofs.Ytjjnadlklfegcaa
set_option linter.unusedVariables false
set_option linter.unusedSimpArgs false
open Go.RowKit

section
variable {w : World} {l : List HP} {T k n : Nat} {xs : List Value}
theorem SlK.slice3 {b off cap : Nat} (h : SatL w (SlK T k (.slice (some ⟨b, off, none⟩) n cap) n xs :: l)) {i j m : Nat} (hij : i ≤ j) (hj : j ≤ n) (hm : j ≤ m) (hmc : m ≤ cap) :
    SatL w (SlK T k (.slice (some ⟨b, off + i * k, none⟩) (j - i) (m - i)) (j - i) ((xs.take (j * k)).drop (i * k)) :: l) := by
  rcases sat_SlK.1 h with ⟨h1, _⟩ | ⟨b', off', cap', arr, ⟨h1, h2, h3, h4, h5, h6⟩, hs⟩
  · cases h1
  · cases h1
    have hjn : j * k ≤ n * k := Nat.mul_le_mul_right _ hj
    have hl : ((xs.take (j * k)).drop (i * k)).length = (j - i) * k := by simp [Nat.sub_mul]; omega
    have hik : i * k ≤ j * k := Nat.mul_le_mul_right _ hij
    have hnc : n * k ≤ cap * k := Nat.mul_le_mul_right _ h2
    have hmk : m * k ≤ cap * k := Nat.mul_le_mul_right _ hmc
    have hjm : j * k ≤ m * k := Nat.mul_le_mul_right _ hm
    refine sat_SlK.2 (.inr ⟨b, off + i * k, m - i, arr, ⟨rfl, by omega, by omega, hl, by rw [Nat.sub_mul]; omega, ?_⟩, hs⟩)
    apply List.ext_getElem?
    intro q
    have hk := congrArg (fun z => z[i * k + q]?) h6
    simp only [List.getElem?_take, List.getElem?_drop, Nat.sub_mul] at hk ⊢
    by_cases hkl : q < j * k - i * k
    · rw [if_pos hkl, if_pos (by omega)]; rw [if_pos (by omega)] at hk
      rw [← hk, Nat.add_assoc]
    · rw [if_neg hkl, if_neg (by omega)]
theorem PutsR.rest {b off c : Nat} {p : Pt} {ps : List Pt} (h : SatL w (PutsR (.slice (some ⟨b, off, none⟩) (ps.length + 1) c) (p :: ps) :: l)) :
    SatL w (PutsR (.slice (some ⟨b, off + 2, none⟩) ps.length ps.length) ps :: l) := by
  have h1 := sat_PutsR.1 h
  obtain ⟨_, _, e, h2, _⟩ := SlK.valn h1
  have e1 := e
  injection e1 with _ _ e2
  have h3 := SlK.slice3 (i := 1) (j := ps.length + 1) (m := ps.length + 1) h1 (by omega) (by simp) (Nat.le_refl _) (by rw [e2]; simpa using h2)
  have e3 : ((pcells (p :: ps)).take ((ps.length + 1) * 2)).drop (1 * 2) = pcells ps := by
    rw [List.take_of_length_le (by rw [pcells_len, List.length_cons]; omega)]; rfl
  rw [e3, Nat.one_mul, Nat.add_sub_cancel] at h3
  have h4 := (big_cons.1 h3.swap).tail
  exact sat_PutsR.2 h4.swap
end
theorem recAll_tail (s : Nat) (l : List PD) : (recAll s l).drop 1 = inRow 1 l ++ [recEnd s l] := rfl
/-- the bytes of the blocks from i on, as far as k -/
def flatFrom (ls : List Pt) (i k : Nat) : List UInt8 := (((ls.drop i).take k).map (·.d)).flatten
theorem flatFrom_succ {ls : List Pt} {i k : Nat} {p : Pt} (h : ls[i + k]? = some p) : flatFrom ls i (k + 1) = flatFrom ls i k ++ p.d := by
  unfold flatFrom
  rw [List.take_add_one, List.getElem?_drop, h]
  simp only [Option.toList_some, List.map_append, List.flatten_append, List.map_cons, List.map_nil, List.flatten_cons, List.flatten_nil, List.append_nil]
theorem flatFrom_len {ls : List Pt} (h : ∀ p ∈ ls, p.d.length ≤ 512) (i : Nat) : ∀ k, (flatFrom ls i k).length ≤ 512 * k
  | 0 => by simp [flatFrom]
  | k + 1 => by
    cases hp : ls[i + k]? with
    | some p =>
      have h1 := flatFrom_len h i k
      have h2 := h p (List.mem_of_getElem? hp)
      rw [flatFrom_succ hp, List.length_append]; omega
    | none =>
      have h1 := flatFrom_len h i k
      have e : flatFrom ls i (k + 1) = flatFrom ls i k := by unfold flatFrom; rw [List.take_add_one, List.getElem?_drop, hp]; simp
      rw [e]; omega
theorem wreq_of (start : Int) {ls : List Pt} {i m : Nat} {p : Pt} (h : ls[i]? = some p) (hm : m = min 16 (ls.length - i)) : wreq start (pds ls) i = ⟨1, start + p.b, 0, flatFrom ls i m⟩ := by
  unfold wreq flatFrom
  rw [pds_get h]
  have e : ((pds ls).drop i).take 16 = (pds ls |>.drop i).take m := by
    rw [hm]
    rcases Nat.le_total 16 (ls.length - i) with h2 | h2
    · rw [Nat.min_eq_left h2]
    · rw [Nat.min_eq_right h2, List.take_of_length_le (by simp; omega), List.take_of_length_le (by simp)]
  rw [e, ← List.map_drop, ← List.map_take, List.map_map]
  rfl
theorem wreqs_snoc (start : Int) (ls : List PD) (c : Nat) : wreqs start ls (c + 1) = wreqs start ls c ++ [wreq start ls (16 * c)] := by simp [wreqs, List.range_succ]
end Go.Proofs.Ytjjnadlklfegcaa
