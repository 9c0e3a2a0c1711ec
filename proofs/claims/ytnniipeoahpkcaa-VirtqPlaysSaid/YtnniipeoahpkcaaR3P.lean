/- The document's queue: plain laws of the rows of chains. -/
import Derived.Test.YtnniipeoahpkcaaR3B
namespace Go.Proofs.Ytnniipeoahpkcaa
set_option linter.unusedVariables false
set_option linter.unusedSimpArgs false
open Go.RowKit
abbrev Chs := List (Rf (List Nat))
theorem chRow_append (a b : Chs) : chRow (a ++ b) = chRow a ++ chRow b := by unfold chRow; rw [List.flatMap_append]
theorem chRow_take : ∀ (rs : Chs) (i : Nat), (chRow rs).take (i * 2) = chRow (rs.take i)
  | [], i => by simp [chRow]
  | r :: rs, 0 => by simp [chRow]
  | r :: rs, i + 1 => by
    have e : chRow (r :: rs) = .int .i64 r.k :: r.v :: chRow rs := rfl
    have e2 : chRow ((r :: rs).take (i + 1)) = .int .i64 r.k :: r.v :: chRow (rs.take i) := rfl
    rw [e, e2, ← chRow_take rs i, show (i + 1) * 2 = i * 2 + 1 + 1 by omega, List.take_succ_cons, List.take_succ_cons]
theorem chRow_drop : ∀ (rs : Chs) (i : Nat), (chRow rs).drop (i * 2) = chRow (rs.drop i)
  | [], i => by simp [chRow]
  | r :: rs, 0 => by simp [chRow]
  | r :: rs, i + 1 => by
    have e : chRow (r :: rs) = .int .i64 r.k :: r.v :: chRow rs := rfl
    rw [e, show (i + 1) * 2 = i * 2 + 1 + 1 by omega, List.drop_succ_cons, List.drop_succ_cons, chRow_drop rs i]; rfl
theorem chRow_get : ∀ {rs : Chs} {i : Nat} {r : Rf (List Nat)}, rs[i]? = some r → (chRow rs)[i * 2]? = some (.int .i64 r.k) ∧ (chRow rs)[i * 2 + 1]? = some r.v
  | [], i, r, h => by simp at h
  | x :: rs, 0, r, h => by simp at h; subst h; exact ⟨rfl, rfl⟩
  | x :: rs, i + 1, r, h => by
    have := chRow_get (rs := rs) (i := i) (r := r) (by simpa using h)
    have e : chRow (x :: rs) = .int .i64 x.k :: x.v :: chRow rs := rfl
    rw [e, show (i + 1) * 2 = i * 2 + 1 + 1 by omega]
    simpa using this
theorem ofget_at {rs : Chs} {i : Nat} {r : Rf (List Nat)} (h : rs[i]? = some r) (hf : ∀ t, t < i → ∀ s, rs[t]? = some s → ¬ s.k = r.k) : ofget rs r.k = some r.xs := by
  have : rs.find? (fun s => s.k == r.k) = some r := by
    rw [List.find?_eq_some_iff_getElem]
    obtain ⟨hi, hr⟩ := List.getElem?_eq_some_iff.1 h
    exact ⟨by simp, i, hi, hr, fun j hj => by simpa using hf j hj _ (List.getElem?_eq_getElem (by omega))⟩
  unfold ofget; rw [this]; rfl
theorem ofget_no {rs : Chs} {k : Int} (hf : ∀ t, t < rs.length → ∀ s, rs[t]? = some s → ¬ s.k = k) : ofget rs k = none := by
  unfold ofget
  rw [find_no]; rfl
  intro r hr
  obtain ⟨t, ht⟩ := List.getElem?_of_mem hr
  exact hf t (List.getElem?_eq_some_iff.1 ht).1 _ ht
theorem erase_perm {rs : Chs} {i : Nat} {r : Rf (List Nat)} (h : rs[i]? = some r) : rs.Perm (r :: (rs.take i ++ rs.drop (i + 1))) := by
  obtain ⟨hi, hr⟩ := List.getElem?_eq_some_iff.1 h
  have e : rs = rs.take i ++ r :: rs.drop (i + 1) := by
    conv => lhs; rw [← List.take_append_drop i rs, List.drop_eq_getElem_cons hi, hr]
  conv => lhs; rw [e]
  exact List.perm_middle
theorem erase_nodup {rs : Chs} {i : Nat} {r : Rf (List Nat)} (h : rs[i]? = some r) (hn : (rs.map (·.k)).Nodup) : ((rs.take i ++ rs.drop (i + 1)).map (·.k)).Nodup ∧ ∀ s ∈ rs.take i ++ rs.drop (i + 1), ¬ s.k = r.k := by
  have h1 := ((erase_perm h).map (·.k)).nodup_iff.1 hn
  rw [List.map_cons, List.nodup_cons] at h1
  exact ⟨h1.2, fun s hs e => h1.1 (List.mem_map.2 ⟨s, hs, e⟩)⟩
theorem erase_get {rs : Chs} {i : Nat} {r : Rf (List Nat)} (h : rs[i]? = some r) (hn : (rs.map (·.k)).Nodup) : ofget (rs.take i ++ rs.drop (i + 1)) = fun j => if j = r.k then none else ofget rs j := by
  obtain ⟨h1, h2⟩ := erase_nodup h hn
  obtain ⟨hi, hr⟩ := List.getElem?_eq_some_iff.1 h
  have e : rs = rs.take i ++ r :: rs.drop (i + 1) := by
    conv => lhs; rw [← List.take_append_drop i rs, List.drop_eq_getElem_cons hi, hr]
  funext j
  by_cases hj : j = r.k
  · rw [if_pos hj]
    unfold ofget
    rw [find_no]; rfl
    intro s hs; rw [hj]; exact h2 s hs
  · rw [if_neg hj]
    unfold ofget
    conv => rhs; rw [e]
    rw [List.find?_append, List.find?_append, List.find?_cons]
    have : (r.k == j) = false := by simp; omega
    rw [this]
theorem chs_add {rs : Chs} {r : Rf (List Nat)} (h : ofget rs r.k = none) : ofget (rs ++ [r]) = upo (ofget rs) r.k r.xs := by
  have hf : rs.find? (fun s => s.k == r.k) = none := by unfold ofget at h; simpa using h
  funext j
  unfold upo
  by_cases hj : j = r.k
  · rw [if_pos hj, hj]; unfold ofget; rw [List.find?_append, hf]; simp
  · rw [if_neg hj]
    unfold ofget
    rw [List.find?_append]
    have : (r.k == j) = false := by simp; omega
    simp [this]
theorem chs_add_nodup {rs : Chs} {r : Rf (List Nat)} (h : ofget rs r.k = none) (hn : (rs.map (·.k)).Nodup) : ((rs ++ [r]).map (·.k)).Nodup := by
  have hf : rs.find? (fun s => s.k == r.k) = none := by unfold ofget at h; simpa using h
  rw [List.map_append, List.nodup_append]
  refine ⟨hn, by simp, ?_⟩
  intro a ha b hb
  obtain ⟨s, hs, rfl⟩ := List.mem_map.1 ha
  simp at hb
  subst hb
  simpa using List.find?_eq_none.1 hf s hs
section
variable {P : Program} {w : World} {L : List HP} {T k bytes : Nat}
/-- a slice's part behind its first q, as a source -/
theorem SrcOk.behind {t e : Nat} {b off n cap q : Nat} {xs : List Value} (hu : P.underlying t = some (.slice e)) (h : SatL w (SlK T k (.slice (some ⟨b, off, none⟩) n cap) n xs :: L)) (hq : q ≤ n) (hc : ¬ cap = q) :
    SrcOk P t k w (.slice (some ⟨b, off + q * k, none⟩) (n - q) (cap - q)) (n - q) (xs.drop (q * k)) := by
  have := SrcOk.ofK hu (SlK.slice h (i := q) (j := n) hq (Nat.le_refl _))
  rwa [List.take_of_length_le (by rw [SlK.len h]; exact Nat.le_refl _)] at this
theorem SrcOk.none0 {t e : Nat} {a : Option Addr} {c : Nat} (hu : P.underlying t = some (.slice e)) (ha : a = none → c = 0) : SrcOk P t k w (.slice a 0 c) 0 [] := by
  refine ⟨by simp, ?_⟩
  cases a with
  | none => exact .inl ⟨by rw [ha rfl], rfl, _, hu⟩
  | some a => exact .inr (.inl ⟨_, _, rfl, ⟨_, hu⟩, fun j y hy => by simp at hy⟩)
theorem SrcOk.front {t e : Nat} {b off n cap q c : Nat} {xs : List Value} (hu : P.underlying t = some (.slice e)) (h : SatL w (SlK T k (.slice (some ⟨b, off, none⟩) n cap) n xs :: L)) (hq : q ≤ n) :
    SrcOk P t k w (.slice (some ⟨b, off, none⟩) q c) q (xs.take (q * k)) := by
  have hl := SlK.len h
  refine ⟨by rw [List.length_take, hl]; exact Nat.min_eq_left (Nat.mul_le_mul_right _ hq), .inr (.inl ⟨_, _, rfl, ⟨_, hu⟩, fun j y hy => ?_⟩)⟩
  rw [addr_add]
  exact SlK.cell h (by
    rw [List.getElem?_take] at hy
    split at hy
    · exact hy
    · cases hy)
end
end Go.Proofs.Ytnniipeoahpkcaa
