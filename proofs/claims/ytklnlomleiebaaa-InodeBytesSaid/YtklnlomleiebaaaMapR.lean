/- A map with int keys to rows that are owned. No condition. -/
import Derived.Test.YtklnlomleiebaaaMap
import Derived.Test.YtklnlomleiebaaaAuto
namespace Go.Proofs.Ytklnlomleiebaaa
set_option linter.unusedVariables false
set_option linter.unusedSimpArgs false
open Go.RowKit

structure Rv where
  k : Int
  v : Value
  xs : List Value
abbrev rvm (rs : List Rv) : IM := rs.map fun r => (r.k, r.v)
def oget (rs : List Rv) (k : Int) : Option (List Value) := (rs.find? fun r => r.k == k).map (·.xs)
/-- a map whose rows (of elements of type T) are told by f -/
def MapO (T m : Nat) (f : Int → Option (List Value)) : HP := ex fun rs => sep [pur (f = oget rs), MapI m (rvm rs), big (fun r : Rv => Sl T r.v r.xs) rs]
def upo {α : Type} (f : Int → Option α) (k : Int) (x : α) : Int → Option α := fun j => if j = k then some x else f j

section
variable {w : World} {l : List HP} {T m : Nat} {f : Int → Option (List Value)}

theorem sat_MapO : SatL w (MapO T m f :: l) ↔ ∃ rs, f = oget rs ∧ SatL w (MapI m (rvm rs) :: big (fun r : Rv => Sl T r.v r.xs) rs :: l) := by
  simp only [MapO, sat_ex, sat_sep, List.cons_append, List.nil_append, sat_pur]
theorem MapO_nil {c : Nat} (h : SatL w (pt m (.map #[] c) :: l)) : SatL w (MapO T m (fun _ => none) :: l) :=
  sat_MapO.2 ⟨[], rfl, ((big_nil).2 (MapI.made h : SatL w (MapI m [] :: l))).swap |> fun h => h.swap |> fun h => (h : SatL w _).swap⟩

theorem rvm_get (xs : List Rv) (k : Int) : mget (rvm xs) k = (xs.find? (fun r => r.k == k)).map (·.v) := by
  induction xs with
  | nil => rfl
  | cons y xs ih =>
    have : rvm (y :: xs) = (y.k, y.v) :: rvm xs := rfl
    rw [this, mget_cons, List.find?_cons, ih]
    cases y.k == k <;> simp
theorem find_no {rs : List Rv} {k : Int} (h : ∀ r ∈ rs, ¬ r.k = k) : (rs.find? fun r => r.k == k) = none := by
  rw [List.find?_eq_none]; intro r hr; simpa using h r hr

/-- the map at one key: what stands there; how it is left, and how a new row is put there -/
theorem mapo_open (h : SatL w (MapO T m f :: l)) (k : Int) : ∃ (es : IM) (R L : HP),
    SatL w (R :: MapI m es :: L :: l) ∧
    (match f k with | none => mget es k = none | some xs => ∃ v, mget es k = some v ∧ R = Sl T v xs) ∧
    (∀ (w' : World) (l' : List HP), SatL w' (R :: MapI m es :: L :: l') → SatL w' (MapO T m f :: l')) ∧
    (∀ (w' : World) (v' : Value) (xs' : List Value) (l' : List HP), SatL w' (Sl T v' xs' :: MapI m (mput es k v') :: L :: l') → SatL w' (MapO T m (upo f k xs') :: l')) := by
  obtain ⟨rs, hfr, h1⟩ := sat_MapO.1 h
  clear h
  subst hfr
  have h := h1
  clear h1
  have hn := MapI.nodup h
  cases hf : rs.find? (fun r => r.k == k) with
  | none =>
    have hne : ∀ r ∈ rs, ¬ r.k = k := fun r hr => by simpa using List.find?_eq_none.1 hf r hr
    have hm : mget (rvm rs) k = none := by rw [rvm_get, hf]; rfl
    have hg : oget rs k = none := by simp [oget, hf]
    refine ⟨rvm rs, pur True, big (fun r : Rv => Sl T r.v r.xs) rs, sat_pur.2 ⟨trivial, h⟩, by rw [hg]; exact hm, fun w' l' h' => sat_MapO.2 ⟨rs, rfl, h'.tail⟩, ?_⟩
    intro w' v' xs' l' h'
    refine sat_MapO.2 ⟨rs ++ [⟨k, v', xs'⟩], ?_, ?_⟩
    · funext j
      unfold upo oget
      rw [List.find?_append]
      by_cases hj : j = k
      · subst hj; simp [hf]
      · have : ¬ k = j := fun e => hj e.symm
        cases rs.find? fun r => r.k == j <;> simp [hj, this]
    · have e : mput (rvm rs) k v' = rvm (rs ++ [⟨k, v', xs'⟩]) := by unfold mput; rw [hm]; simp
      rw [e] at h'
      have h2 : SatL w' (Sl T v' xs' :: big (fun r : Rv => Sl T r.v r.xs) (rs ++ []) :: MapI m (rvm (rs ++ [⟨k, v', xs'⟩])) :: l') := by rw [List.append_nil]; exact h'.bring [0, 2, 1]
      exact (big_mid (x := (⟨k, v', xs'⟩ : Rv)) |>.2 h2).swap
  | some r =>
    obtain ⟨h1, r1, r2, rfl, h2⟩ := List.find?_eq_some_iff_append.1 hf
    have hk : r.k = k := by simpa using h1
    have g1 : ∀ y ∈ r1, ¬ y.k = k := fun y hy => by simpa using h2 y hy
    have hn' : ((r1 ++ r :: r2).map (·.k)).Nodup := by simpa [mkeys, rvm, List.map_map, Function.comp_def] using hn
    have g2 : ∀ y ∈ r2, ¬ y.k = k := by
      intro y hy e
      simp only [List.map_append, List.map_cons] at hn'
      have := (List.nodup_append.1 hn').2.1
      rw [List.nodup_cons] at this
      exact this.1 (by rw [hk, ← e]; exact List.mem_map.2 ⟨y, hy, rfl⟩)
    have hg : oget (r1 ++ r :: r2) k = some r.xs := by unfold oget; rw [hf]; rfl
    have hm : mget (rvm (r1 ++ r :: r2)) k = some r.v := by rw [rvm_get, hf]; rfl
    have others : ∀ (a : List Rv), (∀ y ∈ a, ¬ y.k = k) → ∀ v', (rvm a).map (fun p => if p.1 == k then (k, v') else p) = rvm a := by
      intro a ha v'
      unfold rvm
      rw [List.map_map]
      apply List.map_congr_left
      intro y hy
      simp [ha y hy]
    refine ⟨rvm (r1 ++ r :: r2), Sl T r.v r.xs, big (fun r : Rv => Sl T r.v r.xs) (r1 ++ r2), (big_mid.1 h.swap).bring [0, 2, 1], by rw [hg]; exact ⟨_, hm, rfl⟩, ?_, ?_⟩
    · intro w' l' h'
      exact sat_MapO.2 ⟨_, rfl, (big_mid.2 (h'.bring [0, 2, 1])).swap⟩
    · intro w' v' xs' l' h'
      refine sat_MapO.2 ⟨r1 ++ ⟨k, v', xs'⟩ :: r2, ?_, ?_⟩
      · funext j
        unfold upo
        by_cases hj : j = k
        · subst hj; rw [if_pos rfl]; unfold oget; rw [List.find?_append, find_no g1]; simp
        · rw [if_neg hj]
          unfold oget
          rw [List.find?_append, List.find?_append]
          have e1 : ¬ k = j := fun e => hj e.symm
          have e2 : ¬ r.k = j := by rw [hk]; exact e1
          cases r1.find? fun r => r.k == j <;> simp [e1, e2]
      · have e : mput (rvm (r1 ++ r :: r2)) k v' = rvm (r1 ++ ⟨k, v', xs'⟩ :: r2) := by
          unfold mput
          rw [hm]
          have : rvm (r1 ++ r :: r2) = rvm r1 ++ (r.k, r.v) :: rvm r2 := by simp [rvm]
          rw [if_pos (show (some r.v).isSome = true from rfl), this, List.map_append, List.map_cons, others r1 g1, others r2 g2]
          simp [hk]
        rw [e] at h'
        exact (big_mid (x := (⟨k, v', xs'⟩ : Rv)) |>.2 (h'.bring [0, 2, 1])).swap
end
end Go.Proofs.Ytklnlomleiebaaa
