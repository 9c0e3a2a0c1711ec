/- Slices as resources: elements of k cells each, in a block that is owned. No condition. -/
import Derived.Test.YtklnlomleiebaaaSl
namespace Go.Proofs.Ytklnlomleiebaaa
set_option linter.unusedVariables false
set_option linter.unusedSimpArgs false
open Go.RowKit

theorem hid {p : Prop} (h : p) : Hid p := h

/-- what a slice value is, over a block's cells -/
def SlF (k : Nat) (v : Value) (n : Nat) (xs : List Value) (b off cap : Nat) (arr : Array Value) : Prop :=
  v = .slice (some ⟨b, off, none⟩) n cap ∧ n ≤ cap ∧ cap ≤ maxLen ∧ xs.length = n * k ∧ off + cap * k ≤ arr.size ∧ (arr.toList.drop off).take (n * k) = xs

/-- the slice value v has n elements (of type T, k cells each), their cells are xs; nil: none -/
def SlK (T k : Nat) (v : Value) (n : Nat) (xs : List Value) : HP := fun e h =>
  (v = .slice none 0 0 ∧ n = 0 ∧ xs = []) ∨ ∃ b off cap arr, SlF k v n xs b off cap arr ∧ cl b T arr e h

/-- the same at elements of one cell -/
def Sl (T : Nat) (v : Value) (xs : List Value) : HP := SlK T 1 v xs.length xs

section
variable {w : World} {l : List HP} {T k n : Nat} {v : Value} {xs : List Value}

theorem sat_SlK : SatL w (SlK T k v n xs :: l) ↔ (v = .slice none 0 0 ∧ n = 0 ∧ xs = [] ∧ SatL w l) ∨ ∃ b off cap arr, SlF k v n xs b off cap arr ∧ SatL w (cl b T arr :: l) := by
  constructor
  · rintro ⟨h1, h2, hP, hl, r, s, t⟩
    rcases hP with ⟨a, b, c⟩ | ⟨b, off, cap, arr, p, q⟩
    · exact .inl ⟨a, b, c, Holds.weaken hl t⟩
    · exact .inr ⟨b, off, cap, arr, p, h1, h2, q, hl, r, s, t⟩
  · rintro (⟨a, b, c, h⟩ | ⟨b, off, cap, arr, p, h1, h2, q, r⟩)
    · exact ⟨fun _ => none, heapOf w, .inl ⟨a, b, c⟩, h, fun x => .inl rfl, (fun x o y => by simp at y), PH.sub.refl _⟩
    · exact ⟨h1, h2, .inr ⟨b, off, cap, arr, p, q⟩, r⟩

theorem SlK_nil (h : SatL w l) : SatL w (SlK T k (.slice none 0 0) 0 [] :: l) := sat_SlK.2 (.inl ⟨rfl, rfl, rfl, h⟩)
theorem Sl_nil (h : SatL w l) : SatL w (Sl T (.slice none 0 0) [] :: l) := SlK_nil h

theorem SlF.get {b off cap : Nat} {arr : Array Value} (h : SlF k v n xs b off cap arr) {i : Nat} {x : Value} (hi : xs[i]? = some x) : arr[off + i]? = some x := by
  obtain ⟨_, _, _, _, _, h⟩ := h
  rw [← h, List.getElem?_take] at hi
  split at hi
  · rw [List.getElem?_drop] at hi; simpa using hi
  · cases hi

theorem SlK.cell {b off cap : Nat} (h : SatL w (SlK T k (.slice (some ⟨b, off, none⟩) n cap) n xs :: l)) {i : Nat} {x : Value} (hi : xs[i]? = some x) : w.cell? ⟨b, off + i, none⟩ = some x := by
  rcases sat_SlK.1 h with ⟨h1, _⟩ | ⟨b', off', cap', arr, h5, hs⟩
  · cases h1
  · have h1 := h5.1
    cases h1
    exact hs.cell (h5.get hi)
theorem SlK.free {b off cap : Nat} (h : SatL w (SlK T k (.slice (some ⟨b, off, none⟩) n cap) n xs :: l)) (i : Nat) : w.frozen? ⟨b, i, none⟩ = false := by
  rcases sat_SlK.1 h with ⟨h1, _⟩ | ⟨b', off', cap', arr, h5, hs⟩
  · cases h1
  · have h1 := h5.1
    cases h1
    exact hs.free _
theorem SlK.lt {b off cap : Nat} (h : SatL w (SlK T k (.slice (some ⟨b, off, none⟩) n cap) n xs :: l)) : b < w.heap.size := by
  rcases sat_SlK.1 h with ⟨h1, _⟩ | ⟨b', off', cap', arr, h5, hs⟩
  · cases h1
  · have h1 := h5.1
    cases h1
    exact hs.lt

theorem SlK.form (h : SatL w (SlK T k v n xs :: l)) : (v = .slice none 0 0 ∧ n = 0 ∧ xs = []) ∨ ∃ b off cap, v = .slice (some ⟨b, off, none⟩) n cap ∧ n ≤ cap ∧ cap ≤ maxLen ∧ xs.length = n * k := by
  rcases sat_SlK.1 h with ⟨h1, h2, h3, _⟩ | ⟨b', off', cap', arr, ⟨h1, h2, h3, h4, _⟩, hs⟩
  · exact .inl ⟨h1, h2, h3⟩
  · exact .inr ⟨_, _, _, h1, h2, h3, h4⟩

theorem SlK.len (h : SatL w (SlK T k v n xs :: l)) : xs.length = n * k := by
  rcases SlK.form h with ⟨_, h, h'⟩ | ⟨_, _, _, _, _, _, h⟩
  · simp [h, h']
  · exact h

/-- an empty slice anywhere in the block -/
theorem SlK.empty {b off cap o : Nat} (h : SatL w (SlK T k (.slice (some ⟨b, off, none⟩) n cap) n xs :: l)) (ho : o ≤ off + cap * k) :
    SatL w (SlK T k (.slice (some ⟨b, o, none⟩) 0 0) 0 [] :: l) := by
  rcases sat_SlK.1 h with ⟨h1, _⟩ | ⟨b', off', cap', arr, ⟨h1, h2, h3, h4, h5, h6⟩, hs⟩
  · cases h1
  · cases h1
    exact sat_SlK.2 (.inr ⟨b, o, 0, arr, ⟨rfl, Nat.le_refl _, Nat.zero_le _, by simp, by omega, by simp⟩, hs⟩)
/-- a cell of the slice is written -/
theorem SlK.set {b off cap : Nat} (h : SatL w (SlK T k (.slice (some ⟨b, off, none⟩) n cap) n xs :: l)) {i : Nat} (hi : i < xs.length) (x : Value) :
    SatL (w.setCell ⟨b, off + i, none⟩ x) (SlK T k (.slice (some ⟨b, off, none⟩) n cap) n (xs.set i x) :: l) := by
  rcases sat_SlK.1 h with ⟨h1, _⟩ | ⟨b', off', cap', arr, ⟨h1, h2, h3, h4, h5, h6⟩, hs⟩
  · cases h1
  · cases h1
    refine sat_SlK.2 (.inr ⟨b, off, cap, arr.setIfInBounds (off + i) x, ⟨rfl, h2, h3, by simpa using h4, by simpa using h5, ?_⟩, hs.set x⟩)
    have hle : n * k ≤ cap * k := Nat.mul_le_mul_right _ h2
    rw [Array.toList_setIfInBounds]
    apply List.ext_getElem?
    intro j
    rw [List.getElem?_take, List.getElem?_drop, List.getElem?_set]
    have hk := congrArg (fun z => z[j]?) h6
    simp only [List.getElem?_take, List.getElem?_drop] at hk
    by_cases hkl : j < n * k
    · rw [if_pos hkl]; rw [if_pos hkl] at hk
      by_cases hki : i = j
      · subst hki
        have h7 : off + i < arr.toList.length := by simp; omega
        rw [if_pos rfl, if_pos h7, List.getElem?_set, if_pos rfl, if_pos (by omega)]
      · rw [if_neg (by omega), hk, List.getElem?_set, if_neg hki]
    · rw [if_neg hkl, List.getElem?_eq_none (by simp; omega)]

/-- v[i:j] -/
theorem SlK.slice {b off cap : Nat} (h : SatL w (SlK T k (.slice (some ⟨b, off, none⟩) n cap) n xs :: l)) {i j : Nat} (hij : i ≤ j) (hj : j ≤ n) :
    SatL w (SlK T k (.slice (some ⟨b, off + i * k, none⟩) (j - i) (cap - i)) (j - i) ((xs.take (j * k)).drop (i * k)) :: l) := by
  rcases sat_SlK.1 h with ⟨h1, _⟩ | ⟨b', off', cap', arr, ⟨h1, h2, h3, h4, h5, h6⟩, hs⟩
  · cases h1
  · cases h1
    have hjn : j * k ≤ n * k := Nat.mul_le_mul_right _ hj
    have hl : ((xs.take (j * k)).drop (i * k)).length = (j - i) * k := by simp [Nat.sub_mul]; omega
    have hik : i * k ≤ j * k := Nat.mul_le_mul_right _ hij
    have hnc : n * k ≤ cap * k := Nat.mul_le_mul_right _ h2
    refine sat_SlK.2 (.inr ⟨b, off + i * k, cap - i, arr, ⟨rfl, by omega, by omega, hl, by rw [Nat.sub_mul]; omega, ?_⟩, hs⟩)
    apply List.ext_getElem?
    intro m
    have hk := congrArg (fun z => z[i * k + m]?) h6
    simp only [List.getElem?_take, List.getElem?_drop, Nat.sub_mul] at hk ⊢
    by_cases hkl : m < j * k - i * k
    · rw [if_pos hkl, if_pos (by omega)]; rw [if_pos (by omega)] at hk
      rw [← hk, Nat.add_assoc]
    · rw [if_neg hkl, if_neg (by omega)]

/- the same at one cell -/
theorem Sl.form (h : SatL w (Sl T v xs :: l)) : (v = .slice none 0 0 ∧ xs = []) ∨ ∃ b off cap, v = .slice (some ⟨b, off, none⟩) xs.length cap ∧ xs.length ≤ cap ∧ cap ≤ maxLen := by
  rcases SlK.form h with ⟨h1, h2, h3⟩ | ⟨b, off, cap, h1, h2, h3, _⟩
  · exact .inl ⟨h1, h3⟩
  · exact .inr ⟨_, _, _, h1, h2, h3⟩
theorem Sl.val (h : SatL w (Sl T v xs :: l)) : ∃ a n c, v = .slice a n c := by
  rcases Sl.form h with ⟨h1, _⟩ | ⟨b, off, cap, h1, _⟩ <;> exact ⟨_, _, _, h1⟩
theorem SlK.valn (h : SatL w (SlK T k v n xs :: l)) : ∃ a c, v = .slice a n c ∧ n ≤ c ∧ c ≤ 9223372036854775807 := by
  rcases SlK.form h with ⟨h1, h2, _⟩ | ⟨b, off, cap, h1, h2, h3, _⟩
  · subst h2; exact ⟨_, _, h1, by omega, by omega⟩
  · unfold maxLen at h3; exact ⟨_, _, h1, h2, by omega⟩
theorem Sl.valn (h : SatL w (Sl T v xs :: l)) {m : Nat} (hm : xs.length = m) : ∃ a c, v = .slice a m c ∧ m ≤ c ∧ c ≤ 9223372036854775807 := by
  subst hm; exact SlK.valn h
theorem SlK.val (h : SatL w (SlK T k v n xs :: l)) : ∃ a m c, v = .slice a m c := by
  rcases SlK.form h with ⟨h1, _⟩ | ⟨b, off, cap, h1, _⟩ <;> exact ⟨_, _, _, h1⟩
theorem Sl.ofK (h : SatL w (SlK T 1 v n xs :: l)) : SatL w (Sl T v xs :: l) := by
  have := SlK.len h
  unfold Sl
  rwa [this, Nat.mul_one]
theorem Sl.toK (h : SatL w (Sl T v xs :: l)) (hn : xs.length = n) : SatL w (SlK T 1 v n xs :: l) := hn ▸ h
theorem Sl.lenEq {a : Option Addr} {cap : Nat} (h : SatL w (Sl T (.slice a n cap) xs :: l)) : n = xs.length ∧ n ≤ cap ∧ cap ≤ maxLen := by
  rcases Sl.form h with ⟨h1, h2⟩ | ⟨b, off, cap', h1, h2, h3⟩
  · cases h1; subst h2; exact ⟨rfl, Nat.le_refl _, Nat.zero_le _⟩
  · cases h1; exact ⟨rfl, h2, h3⟩
theorem Sl.addr {a : Option Addr} {cap : Nat} (h : SatL w (Sl T (.slice a n cap) xs :: l)) (hn : 0 < n) : ∃ b off, a = some ⟨b, off, none⟩ := by
  rcases Sl.form h with ⟨h1, h2⟩ | ⟨b, off, cap', h1, h2, h3⟩
  · injection h1 with _ h4 _; omega
  · injection h1 with h4 _ _; exact ⟨_, _, h4⟩
theorem Sl.cell {b off cap : Nat} (h : SatL w (Sl T (.slice (some ⟨b, off, none⟩) n cap) xs :: l)) {i : Nat} {x : Value} (hi : xs[i]? = some x) : w.cell? ⟨b, off + i, none⟩ = some x :=
  SlK.cell (Sl.toK h (Sl.lenEq h).1.symm) hi
theorem Sl.free {b off cap : Nat} (h : SatL w (Sl T (.slice (some ⟨b, off, none⟩) n cap) xs :: l)) (i : Nat) : w.frozen? ⟨b, i, none⟩ = false :=
  SlK.free (Sl.toK h (Sl.lenEq h).1.symm) i
theorem Sl.lt {b off cap : Nat} (h : SatL w (Sl T (.slice (some ⟨b, off, none⟩) n cap) xs :: l)) : b < w.heap.size :=
  SlK.lt (Sl.toK h (Sl.lenEq h).1.symm)
theorem Sl.set {b off cap : Nat} (h : SatL w (Sl T (.slice (some ⟨b, off, none⟩) n cap) xs :: l)) {i : Nat} (hi : i < xs.length) (x : Value) :
    SatL (w.setCell ⟨b, off + i, none⟩ x) (Sl T (.slice (some ⟨b, off, none⟩) n cap) (xs.set i x) :: l) := by
  exact Sl.ofK (SlK.set (Sl.toK h (Sl.lenEq h).1.symm) hi x)
theorem Sl.slice {b off cap : Nat} (h : SatL w (Sl T (.slice (some ⟨b, off, none⟩) n cap) xs :: l)) {i j : Nat} (hij : i ≤ j) (hj : j ≤ n) :
    SatL w (Sl T (.slice (some ⟨b, off + i, none⟩) (j - i) (cap - i)) ((xs.take j).drop i) :: l) := by
  have := Sl.ofK (SlK.slice (Sl.toK h (Sl.lenEq h).1.symm) hij hj)
  simpa only [Nat.mul_one] using this
end

end Go.Proofs.Ytklnlomleiebaaa
