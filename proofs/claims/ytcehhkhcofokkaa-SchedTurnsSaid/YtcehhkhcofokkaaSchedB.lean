/- A map to rows, opened at one key. -/
import Derived.Test.YtcehhkhcofokkaaSchedA
namespace Go.Proofs.Ytcehhkhcofokkaa
open Go.RowKit
set_option linter.unusedVariables false

section
variable {w : World} {l : List HP} {m : Nat} {f : Int → List Int}

theorem sat_rows : SatL w (MapRows m f :: l) ↔ ∃ rs, f = rget rs ∧ SatL w (MapI m (rim rs) :: big RwR rs :: l) := by
  simp only [MapRows, sat_ex, sat_sep, List.cons_append, List.nil_append, sat_pur]

theorem rget_append (a b : List Rw) (k : Int) : rget (a ++ b) k = match a.find? fun r => r.k == k with | some r => r.xs | none => rget b k := by
  unfold rget
  rw [List.find?_append]
  cases a.find? fun r => r.k == k <;> rfl
theorem find_none' {rs : List Rw} {k : Int} (h : ∀ r ∈ rs, ¬ r.k = k) : (rs.find? fun r => r.k == k) = none := by
  rw [List.find?_eq_none]; intro r hr; simpa using h r hr

/-- the map at one key: the row that stands there, and how it is put back -/
theorem rows_open (h : SatL w (MapRows m f :: l)) (k : Int) : ∃ (v : Value) (es : IM) (L : HP),
    (mget es k).getD (.slice none 0 0) = v ∧ SatL w (Sl 3 v (ints (f k)) :: MapI m es :: L :: l) ∧
    (∀ (w' : World) (v' : Value) (xs' : List Int) (l' : List HP), SatL w' (Sl 3 v' (ints xs') :: MapI m (mput es k v') :: L :: l') → SatL w' (MapRows m (upf f k xs') :: l')) ∧
    (∀ (w' : World) (l' : List HP), SatL w' (MapI m (mdel es k) :: L :: l') → SatL w' (MapRows m (upf f k []) :: l')) ∧
    (∀ (w' : World) (l' : List HP), SatL w' (Sl 3 v (ints (f k)) :: MapI m es :: L :: l') → SatL w' (MapRows m f :: l')) := by
  obtain ⟨rs, hfr, h1⟩ := sat_rows.1 h
  clear h
  subst hfr
  have h := h1
  clear h1
  have hn := MapI.nodup h
  cases hf : rs.find? (fun r => r.k == k) with
  | none =>
    have hne : ∀ r ∈ rs, ¬ r.k = k := fun r hr => by simpa using List.find?_eq_none.1 hf r hr
    have hm : mget (rim rs) k = none := by
      cases hg : mget (rim rs) k with
      | none => rfl
      | some v =>
        have := (mget_isSome (rim rs) k).1 (by simp [hg])
        simp only [mkeys, List.map_map, List.mem_map] at this
        obtain ⟨r, hr, e⟩ := this
        exact absurd e (hne r hr)
    have hg : rget rs k = [] := by simp [rget, hf]
    refine ⟨.slice none 0 0, rim rs, big RwR rs, by rw [hm]; rfl, by rw [hg]; exact Sl_nil h, ?_, ?_, ?_⟩
    · intro w' v' xs' l' h'
      refine sat_rows.2 ⟨rs ++ [⟨k, v', xs'⟩], ?_, ?_⟩
      · funext j
        rw [rget_append]
        unfold upf
        by_cases hj : j = k
        · subst hj; simp [hf, rget]
        · rw [if_neg hj]
          unfold rget
          have : ¬ k = j := fun e => hj e.symm
          cases rs.find? fun r => r.k == j <;> simp [this]
      · have e : mput (rim rs) k v' = rim (rs ++ [⟨k, v', xs'⟩]) := by unfold mput; rw [hm]; simp
        rw [e] at h'
        have h2 : SatL w' (RwR ⟨k, v', xs'⟩ :: big RwR (rs ++ []) :: MapI m (rim (rs ++ [⟨k, v', xs'⟩])) :: l') := by rw [List.append_nil]; exact h'.bring [0, 2, 1]
        exact (big_mid.2 h2).swap
    · intro w' l' h'
      rw [mdel_none _ _ hm] at h'
      refine sat_rows.2 ⟨rs, ?_, h'⟩
      funext j
      unfold upf
      by_cases hj : j = k
      · subst hj; rw [if_pos rfl, hg]
      · rw [if_neg hj]
    · intro w' l' h'
      exact sat_rows.2 ⟨rs, rfl, SatL.tail h'⟩
  | some r =>
    obtain ⟨h1, r1, r2, rfl, h2⟩ := List.find?_eq_some_iff_append.1 hf
    have hk : r.k = k := by simpa using h1
    have g1 : ∀ y ∈ r1, ¬ y.k = k := fun y hy => by simpa using h2 y hy
    have hn' : ((r1 ++ r :: r2).map (·.k)).Nodup := by simpa [mkeys, rim, List.map_map, Function.comp_def] using hn
    have g2 : ∀ y ∈ r2, ¬ y.k = k := by
      intro y hy e
      simp only [List.map_append, List.map_cons] at hn'
      have := (List.nodup_append.1 hn').2.1
      rw [List.nodup_cons] at this
      exact this.1 (by rw [hk, ← e]; exact List.mem_map.2 ⟨y, hy, rfl⟩)
    have hg : rget (r1 ++ r :: r2) k = r.xs := by unfold rget; rw [hf]; rfl
    have find_map : ∀ (xs : List Rw), mget (rim xs) k = (xs.find? (fun r => r.k == k)).map (·.v) := by
      intro xs
      induction xs with
      | nil => rfl
      | cons y xs ih =>
        have : rim (y :: xs) = (y.k, y.v) :: rim xs := rfl
        rw [this, mget_cons, List.find?_cons, ih]
        cases y.k == k <;> simp
    have hm : mget (rim (r1 ++ r :: r2)) k = some r.v := by rw [find_map, hf]; rfl
    have others : ∀ (a : List Rw), (∀ y ∈ a, ¬ y.k = k) → ∀ v', (rim a).map (fun p => if p.1 == k then (k, v') else p) = rim a := by
      intro a ha v'
      unfold rim
      rw [List.map_map]
      apply List.map_congr_left
      intro y hy
      simp [ha y hy]
    refine ⟨r.v, rim (r1 ++ r :: r2), big RwR (r1 ++ r2), by rw [hm]; rfl, ?_, ?_, ?_, ?_⟩
    · rw [hg]; exact (big_mid.1 h.swap).bring [0, 2, 1]
    · intro w' v' xs' l' h'
      refine sat_rows.2 ⟨r1 ++ ⟨k, v', xs'⟩ :: r2, ?_, ?_⟩
      · funext j
        unfold upf
        by_cases hj : j = k
        · subst hj; rw [if_pos rfl, rget_append, find_none' g1]; simp [rget]
        · rw [if_neg hj, rget_append, rget_append]
          have e1 : ¬ k = j := fun e => hj e.symm
          have e2 : ¬ r.k = j := by rw [hk]; exact e1
          cases r1.find? fun r => r.k == j <;> simp [rget, e1, e2]
      · have e : mput (rim (r1 ++ r :: r2)) k v' = rim (r1 ++ ⟨k, v', xs'⟩ :: r2) := by
          unfold mput
          rw [hm]
          have : rim (r1 ++ r :: r2) = rim r1 ++ (r.k, r.v) :: rim r2 := by simp [rim]
          rw [if_pos (show (some r.v).isSome = true from rfl), this, List.map_append, List.map_cons, others r1 g1, others r2 g2]
          simp [hk]
        rw [e] at h'
        exact (big_mid.2 (h'.bring [0, 2, 1] : SatL w' (RwR ⟨k, v', xs'⟩ :: big RwR (r1 ++ r2) :: _))).swap
    · intro w' l' h'
      have e : mdel (rim (r1 ++ r :: r2)) k = rim (r1 ++ r2) := by
        have q : ∀ a : List Rw, (∀ y ∈ a, ¬ y.k = k) → mdel (rim a) k = rim a := by
          intro a ha
          unfold mdel
          rw [List.filter_eq_self]
          intro p hp
          obtain ⟨y, hy, rfl⟩ := List.mem_map.1 hp
          simpa using ha y hy
        have e1 : rim (r1 ++ r :: r2) = rim r1 ++ (r.k, r.v) :: rim r2 := by simp [rim]
        have e2 : rim (r1 ++ r2) = rim r1 ++ rim r2 := by simp [rim]
        have q1 := q r1 g1
        have q2 := q r2 g2
        unfold mdel at q1 q2 ⊢
        rw [e1, e2, List.filter_append, List.filter_cons, q1, q2]
        simp [hk]
      rw [e] at h'
      refine sat_rows.2 ⟨r1 ++ r2, ?_, h'⟩
      funext j
      unfold upf
      by_cases hj : j = k
      · subst hj; rw [if_pos rfl, rget_append, find_none' g1]; simp [rget, find_none' g2]
      · rw [if_neg hj, rget_append, rget_append]
        have e1 : ¬ k = j := fun e => hj e.symm
        have e2 : ¬ r.k = j := by rw [hk]; exact e1
        cases r1.find? fun r => r.k == j <;> simp [rget, e2]
    · intro w' l' h'
      rw [hg] at h'
      exact sat_rows.2 ⟨_, rfl, (big_mid.2 (h'.bring [0, 2, 1] : SatL w' (RwR r :: big RwR (r1 ++ r2) :: _))).swap⟩
end
end Go.Proofs.Ytcehhkhcofokkaa
