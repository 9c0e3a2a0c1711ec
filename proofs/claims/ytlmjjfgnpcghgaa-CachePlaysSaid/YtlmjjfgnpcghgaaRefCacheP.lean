/- The document's cache: plain laws of its rows; which block Dirty tells next. -/
import Derived.Test.YtlmjjfgnpcghgaaCacheH
namespace Go.Proofs.Ytlmjjfgnpcghgaa
set_option linter.unusedVariables false
set_option linter.unusedSimpArgs false
/-- the least dirty one above a number, among the first -/
def dnx (row : List Ent) (last : Int) : Nat → Int
  | 0 => -1
  | i + 1 => match row[i]? with
    | none => dnx row last i
    | some x => if x.dirty = true ∧ last < x.b ∧ (dnx row last i < 0 ∨ x.b < dnx row last i) then x.b else dnx row last i
theorem dnx_succ {row : List Ent} {last : Int} {i : Nat} {x : Ent} (h : row[i]? = some x) : dnx row last (i + 1) = if x.dirty = true ∧ last < x.b ∧ (dnx row last i < 0 ∨ x.b < dnx row last i) then x.b else dnx row last i := by
  show (match row[i]? with | none => _ | some x => _) = _
  rw [h]
theorem dnx_spec {row : List Ent} {last : Int} (h0 : ∀ x ∈ row, 0 ≤ x.b) (hl : -1 ≤ last) : ∀ i, i ≤ row.length →
    (dnx row last i = -1 ∧ ∀ j, j < i → ∀ x, row[j]? = some x → x.dirty = true → x.b ≤ last) ∨
    (∃ j x, j < i ∧ row[j]? = some x ∧ x.dirty = true ∧ dnx row last i = x.b ∧ last < x.b ∧ ∀ j, j < i → ∀ y, row[j]? = some y → y.dirty = true → last < y.b → x.b ≤ y.b)
  | 0, _ => .inl ⟨rfl, fun j hj => absurd hj (by omega)⟩
  | i + 1, hi => by
    obtain ⟨x, hx⟩ : ∃ x, row[i]? = some x := ⟨_, List.getElem?_eq_getElem hi⟩
    have hxb := h0 x (List.mem_of_getElem? hx)
    rw [dnx_succ hx]
    rcases dnx_spec h0 hl i (by omega) with ⟨h1, h2⟩ | ⟨j, z, h1, h2, h3, h4, h5, h6⟩
    · by_cases hc : x.dirty = true ∧ last < x.b
      · rw [if_pos ⟨hc.1, hc.2, .inl (by rw [h1]; omega)⟩]
        refine .inr ⟨i, x, by omega, hx, hc.1, rfl, hc.2, fun j hj y hy hd hy2 => ?_⟩
        by_cases e : j = i
        · subst e; rw [hx] at hy; cases hy; exact Int.le_refl _
        · have := h2 j (by omega) y hy hd; omega
      · rw [if_neg (fun h => hc ⟨h.1, h.2.1⟩)]
        refine .inl ⟨h1, fun j hj y hy hd => ?_⟩
        by_cases e : j = i
        · subst e; rw [hx] at hy; cases hy
          have : ¬ last < x.b := fun h => hc ⟨hd, h⟩
          omega
        · exact h2 j (by omega) y hy hd
    · have hzb := h0 z (List.mem_of_getElem? h2)
      by_cases hc : x.dirty = true ∧ last < x.b ∧ x.b < z.b
      · rw [if_pos ⟨hc.1, hc.2.1, .inr (by rw [h4]; exact hc.2.2)⟩]
        refine .inr ⟨i, x, by omega, hx, hc.1, rfl, hc.2.1, fun j hj y hy hd hy2 => ?_⟩
        by_cases e : j = i
        · subst e; rw [hx] at hy; cases hy; exact Int.le_refl _
        · have := h6 j (by omega) y hy hd hy2; have := hc.2.2; omega
      · rw [if_neg (fun h => hc ⟨h.1, h.2.1, by rcases h.2.2 with h | h <;> omega⟩)]
        refine .inr ⟨j, z, by omega, h2, h3, h4, h5, fun j' hj y hy hd hy2 => ?_⟩
        by_cases e : j' = i
        · subst e; rw [hx] at hy; cases hy
          have : ¬ x.b < z.b := fun h => hc ⟨hd, hy2, h⟩
          omega
        · exact h6 j' (by omega) y hy hd hy2
def lastOf (S : List Int) (t : Nat) : Int := if t = 0 then -1 else S.getD (t - 1) (-1)
theorem dirtyE_mem {row : List Ent} {k : Int} : k ∈ dirtyE row ↔ ∃ (j : Nat) (x : Ent), row[j]? = some x ∧ x.dirty = true ∧ x.b = k := by
  unfold dirtyE
  rw [List.mem_map]
  constructor
  · rintro ⟨x, hx, rfl⟩
    obtain ⟨h1, h2⟩ := List.mem_filter.1 hx
    obtain ⟨j, hj⟩ := List.getElem?_of_mem h1
    exact ⟨j, x, hj, h2, rfl⟩
  · rintro ⟨j, x, hj, hd, rfl⟩
    exact ⟨x, List.mem_filter.2 ⟨List.mem_of_getElem? hj, hd⟩, rfl⟩
theorem dirty_strict {row : List Ent} (hn : (row.map (·.b)).Nodup) : (ups (dirtyE row)).Pairwise (· < ·) := by
  have h1 : (dirtyE row).Nodup := by
    unfold dirtyE
    exact List.Nodup.sublist (List.Sublist.map _ List.filter_sublist) hn
  have h2 : (ups (dirtyE row)).Nodup := ((ups_perm _).nodup_iff).2 h1
  exact (List.pairwise_and_iff.2 ⟨ups_sorted (dirtyE row), h2⟩).imp (fun ⟨h, h'⟩ => by omega)
theorem dnx_at {row : List Ent} (h0 : ∀ x ∈ row, 0 ≤ x.b) (hn : (row.map (·.b)).Nodup) {t : Nat} (ht : t ≤ (ups (dirtyE row)).length) :
    dnx row (lastOf (ups (dirtyE row)) t) row.length = (ups (dirtyE row)).getD t (-1) := by
  have hs := dirty_strict hn
  have hm : ∀ k, k ∈ ups (dirtyE row) ↔ ∃ (j : Nat) (x : Ent), row[j]? = some x ∧ x.dirty = true ∧ x.b = k := fun k => by rw [ups_mem, dirtyE_mem]
  generalize ups (dirtyE row) = S at *
  have hpos : ∀ k ∈ S, 0 ≤ k := fun k hk => by
    obtain ⟨j, x, hj, _, rfl⟩ := (hm k).1 hk
    exact h0 x (List.mem_of_getElem? hj)
  have hge : ∀ a b : Nat, ∀ x y, S[a]? = some x → S[b]? = some y → a < b → x < y := fun a b x y ha hb hab => by
    obtain ⟨ha1, ha2⟩ := List.getElem?_eq_some_iff.1 ha
    obtain ⟨hb1, hb2⟩ := List.getElem?_eq_some_iff.1 hb
    have := List.pairwise_iff_getElem.1 hs a b ha1 hb1 hab
    rw [ha2, hb2] at this; exact this
  have hlast : -1 ≤ lastOf S t ∧ (∀ k, S[t - 1]? = some k → 0 < t → lastOf S t = k) := by
    unfold lastOf
    by_cases h : t = 0
    · rw [if_pos h]; exact ⟨by omega, fun k _ h' => by omega⟩
    · rw [if_neg h, List.getD_eq_getElem?_getD]
      cases hk : S[t - 1]? with
      | none => simp
      | some k => exact ⟨by have := hpos k (List.mem_of_getElem? hk); simp; omega, fun k' e _ => by cases e; rfl⟩
  have habove : ∀ a x, S[a]? = some x → (lastOf S t < x ↔ t ≤ a) := fun a x ha => by
    by_cases h : t = 0
    · have h1 : lastOf S t = -1 := by unfold lastOf; rw [if_pos h]
      have := hpos x (List.mem_of_getElem? ha)
      rw [h1]; constructor <;> intro <;> omega
    · obtain ⟨k, hk⟩ : ∃ k, S[t - 1]? = some k := ⟨_, List.getElem?_eq_getElem (by omega)⟩
      have h1 := hlast.2 k hk (by omega)
      rw [h1]
      constructor
      · intro hlt
        rcases Nat.lt_or_ge a t with h2 | h2
        · exfalso
          by_cases e : a = t - 1
          · subst e; rw [hk] at ha; cases ha; omega
          · have := hge a (t - 1) x k ha hk (by omega); omega
        · exact h2
      · intro h2; exact hge (t - 1) a k x hk ha (by omega)
  rcases dnx_spec h0 hlast.1 row.length (Nat.le_refl _) with ⟨h1, h2⟩ | ⟨j, x, h1, h2, h3, h4, h5, h6⟩
  · rw [h1, List.getD_eq_getElem?_getD]
    cases hk : S[t]? with
    | none => rfl
    | some k =>
      exfalso
      obtain ⟨j, x, hj, hd, rfl⟩ := (hm k).1 (List.mem_of_getElem? hk)
      have := h2 j (List.getElem?_eq_some_iff.1 hj).1 x hj hd
      have := (habove t _ hk).2 (Nat.le_refl _)
      omega
  · rw [h4]
    obtain ⟨a, ha⟩ := List.getElem?_of_mem ((hm x.b).2 ⟨j, x, h2, h3, rfl⟩)
    have hta := (habove a _ ha).1 h5
    have hal := (List.getElem?_eq_some_iff.1 ha).1
    obtain ⟨k, hk⟩ : ∃ k, S[t]? = some k := ⟨_, List.getElem?_eq_getElem (by omega)⟩
    obtain ⟨j', y, hj', hd', hy⟩ := (hm k).1 (List.mem_of_getElem? hk)
    have h7 := h6 j' (List.getElem?_eq_some_iff.1 hj').1 y hj' hd' (by rw [hy]; exact (habove t _ hk).2 (Nat.le_refl _))
    rw [List.getD_eq_getElem?_getD, hk]
    show x.b = k
    rcases Nat.lt_or_ge t a with h8 | h8
    · have := hge t a k x.b hk ha h8; omega
    · have : a = t := by omega
      subst this; rw [hk] at ha; exact (Option.some.inj ha).symm
end Go.Proofs.Ytlmjjfgnpcghgaa
