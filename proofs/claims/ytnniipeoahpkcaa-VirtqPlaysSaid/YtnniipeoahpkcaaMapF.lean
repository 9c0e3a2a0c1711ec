/- A map with int keys to things that are owned; clear at such a map. No condition. -/
import Derived.Test.YtnniipeoahpkcaaMap
import Derived.Test.YtnniipeoahpkcaaAuto
namespace Go.Proofs.Ytnniipeoahpkcaa
set_option linter.unusedVariables false
set_option linter.unusedSimpArgs false
open Go.RowKit

structure Rf (α : Type) where
  k : Int
  v : Value
  xs : α
abbrev rfm {α : Type} (rs : List (Rf α)) : IM := rs.map fun r => (r.k, r.v)
def ofget {α : Type} (rs : List (Rf α)) (k : Int) : Option α := (rs.find? fun r => r.k == k).map (·.xs)
/-- a map whose rows (of elements of type T) are told by f -/
def MapF {α : Type} (F : Value → α → HP) (m : Nat) (f : Int → Option α) : HP := ex fun rs => sep [pur (f = ofget rs), MapI m (rfm rs), big (fun r   : Rf α => F r.v r.xs) rs]
def upo {α : Type} (f : Int → Option α) (k : Int) (x : α) : Int → Option α := fun j => if j = k then some x else f j

section
variable {w : World} {l : List HP} {α : Type} {F : Value → α → HP} {m : Nat} {f : Int → Option α}

theorem sat_MapF : SatL w (MapF F m f :: l) ↔ ∃ rs, f = ofget rs ∧ SatL w (MapI m (rfm rs) :: big (fun r   : Rf α => F r.v r.xs) rs :: l) := by
  simp only [MapF, sat_ex, sat_sep, List.cons_append, List.nil_append, sat_pur]
theorem MapF_nil {c : Nat} (h : SatL w (pt m (.map #[] c) :: l)) : SatL w (MapF F m (fun _ => none) :: l) :=
  sat_MapF.2 ⟨[], rfl, ((big_nil).2 (MapI.made h : SatL w (MapI m [] :: l))).swap |> fun h => h.swap |> fun h => (h : SatL w _).swap⟩

theorem rfm_get (xs : List (Rf α)) (k : Int) : mget (rfm xs) k = (xs.find? (fun r => r.k == k)).map (·.v) := by
  induction xs with
  | nil => rfl
  | cons y xs ih =>
    have : rfm (y :: xs) = (y.k, y.v) :: rfm xs := rfl
    rw [this, mget_cons, List.find?_cons, ih]
    cases y.k == k <;> simp
theorem find_no {α : Type} {rs : List (Rf α)} {k : Int} (h : ∀ r ∈ rs, ¬ r.k = k) : (rs.find? fun r => r.k == k) = none := by
  rw [List.find?_eq_none]; intro r hr; simpa using h r hr

/-- the map at one key: what stands there; how it is left, and how a new row is put there -/
theorem mapf_open (h : SatL w (MapF F m f :: l)) (k : Int) : ∃ (es : IM) (R L : HP),
    SatL w (R :: MapI m es :: L :: l) ∧
    (match f k with | none => mget es k = none | some xs => ∃ v, mget es k = some v ∧ R = F v xs) ∧
    (∀ (w' : World) (l' : List HP), SatL w' (R :: MapI m es :: L :: l') → SatL w' (MapF F m f :: l')) ∧
    (∀ (w' : World) (v' : Value) (xs' : α) (l' : List HP), SatL w' (F v' xs' :: MapI m (mput es k v') :: L :: l') → SatL w' (MapF F m (upo f k xs') :: l')) := by
  obtain ⟨rs, hfr, h1⟩ := sat_MapF.1 h
  clear h
  subst hfr
  have h := h1
  clear h1
  have hn := MapI.nodup h
  cases hf : rs.find? (fun r => r.k == k) with
  | none =>
    have hne : ∀ r ∈ rs, ¬ r.k = k := fun r hr => by simpa using List.find?_eq_none.1 hf r hr
    have hm : mget (rfm rs) k = none := by rw [rfm_get, hf]; rfl
    have hg : ofget rs k = none := by simp [ofget, hf]
    refine ⟨rfm rs, pur True, big (fun r   : Rf α => F r.v r.xs) rs, sat_pur.2 ⟨trivial, h⟩, by rw [hg]; exact hm, fun w' l' h' => sat_MapF.2 ⟨rs, rfl, h'.tail⟩, ?_⟩
    intro w' v' xs' l' h'
    refine sat_MapF.2 ⟨rs ++ [⟨k, v', xs'⟩], ?_, ?_⟩
    · funext j
      unfold upo ofget
      rw [List.find?_append]
      by_cases hj : j = k
      · subst hj; simp [hf]
      · have : ¬ k = j := fun e => hj e.symm
        cases rs.find? fun r => r.k == j <;> simp [hj, this]
    · have e : mput (rfm rs) k v' = rfm (rs ++ [⟨k, v', xs'⟩]) := by unfold mput; rw [hm]; simp
      rw [e] at h'
      have h2 : SatL w' (F v' xs' :: big (fun r   : Rf α => F r.v r.xs) (rs ++ []) :: MapI m (rfm (rs ++ [⟨k, v', xs'⟩])) :: l') := by rw [List.append_nil]; exact h'.bring [0, 2, 1]
      exact (big_mid (x := (⟨k, v', xs'⟩   : Rf α)) |>.2 h2).swap
  | some r =>
    obtain ⟨h1, r1, r2, rfl, h2⟩ := List.find?_eq_some_iff_append.1 hf
    have hk : r.k = k := by simpa using h1
    have g1 : ∀ y ∈ r1, ¬ y.k = k := fun y hy => by simpa using h2 y hy
    have hn' : ((r1 ++ r :: r2).map (·.k)).Nodup := by simpa [mkeys, rfm, List.map_map, Function.comp_def] using hn
    have g2 : ∀ y ∈ r2, ¬ y.k = k := by
      intro y hy e
      simp only [List.map_append, List.map_cons] at hn'
      have := (List.nodup_append.1 hn').2.1
      rw [List.nodup_cons] at this
      exact this.1 (by rw [hk, ← e]; exact List.mem_map.2 ⟨y, hy, rfl⟩)
    have hg : ofget (r1 ++ r :: r2) k = some r.xs := by unfold ofget; rw [hf]; rfl
    have hm : mget (rfm (r1 ++ r :: r2)) k = some r.v := by rw [rfm_get, hf]; rfl
    have others : ∀ (a : List (Rf α)), (∀ y ∈ a, ¬ y.k = k) → ∀ v', (rfm a).map (fun p => if p.1 == k then (k, v') else p) = rfm a := by
      intro a ha v'
      unfold rfm
      rw [List.map_map]
      apply List.map_congr_left
      intro y hy
      simp [ha y hy]
    refine ⟨rfm (r1 ++ r :: r2), F r.v r.xs, big (fun r   : Rf α => F r.v r.xs) (r1 ++ r2), (big_mid.1 h.swap).bring [0, 2, 1], by rw [hg]; exact ⟨_, hm, rfl⟩, ?_, ?_⟩
    · intro w' l' h'
      exact sat_MapF.2 ⟨_, rfl, (big_mid.2 (h'.bring [0, 2, 1])).swap⟩
    · intro w' v' xs' l' h'
      refine sat_MapF.2 ⟨r1 ++ ⟨k, v', xs'⟩ :: r2, ?_, ?_⟩
      · funext j
        unfold upo
        by_cases hj : j = k
        · subst hj; rw [if_pos rfl]; unfold ofget; rw [List.find?_append, find_no g1]; simp
        · rw [if_neg hj]
          unfold ofget
          rw [List.find?_append, List.find?_append]
          have e1 : ¬ k = j := fun e => hj e.symm
          have e2 : ¬ r.k = j := by rw [hk]; exact e1
          cases r1.find? fun r => r.k == j <;> simp [e1, e2]
      · have e : mput (rfm (r1 ++ r :: r2)) k v' = rfm (r1 ++ ⟨k, v', xs'⟩ :: r2) := by
          unfold mput
          rw [hm]
          have : rfm (r1 ++ r :: r2) = rfm r1 ++ (r.k, r.v) :: rfm r2 := by simp [rfm]
          rw [if_pos (show (some r.v).isSome = true from rfl), this, List.map_append, List.map_cons, others r1 g1, others r2 g2]
          simp [hk]
        rw [e] at h'
        exact (big_mid (x := (⟨k, v', xs'⟩   : Rf α)) |>.2 (h'.bring [0, 2, 1])).swap
end
section
variable {P : Program} {w : World} {l : List HP} {b t kt e0 : Nat} {es : IM}
theorem run_mapclear_sl {ty : Nat} (hu : P.underlying t = some (.map kt e0)) (h : SatL w (MapI b es :: l)) : ∃ w', (Builtin.clear_ #[t] ty #[.map (some b)]).run P w = .ok (.tuple #[]) w' ∧ SatL w' (MapI b [] :: l) := by
  obtain ⟨_, en, clock, hen, hst, hs⟩ := sat_MapI.1 h
  have hb := hs.heap
  refine ⟨{ w with heap := w.heap.setIfInBounds b (.map #[] clock) }, ?_, MapI.made (setObj_put hs rfl)⟩
  simp [Builtin.clear_, run_underlying hu, getObj, setObj, Sem.run, hb]
end
end Go.Proofs.Ytnniipeoahpkcaa
