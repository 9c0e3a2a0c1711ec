/- Rows of strings that are owned (DiskKeeps' seen); what its disk holds. No condition. -/
import Derived.Test.YtjjiljijcigekaaTornP
namespace Go.Proofs.Ytjjiljijcigekaa
set_option linter.unusedVariables false
set_option linter.unusedSimpArgs false
open Go.RowKit
def strV (l : List UInt8) : Value := .string ⟨l.toArray⟩
structure Sr where
  v : Value
  ss : List (List UInt8)
abbrev srB (rs : List Sr) : HP := big (fun r : Sr => Sl 9 r.v (r.ss.map strV)) rs
def SeenF (sv : Value) (f : Nat → List (List UInt8)) : HP := ex fun rs : List Sr => sep [pur (rs.length = 16 ∧ ∀ i r, rs[i]? = some r → r.ss = f i), Sl 43 sv (rs.map (·.v)), srB rs]
section
variable {w : World} {L : List HP} {sv : Value} {f : Nat → List (List UInt8)}
theorem sat_SeenF : SatL w (SeenF sv f :: L) ↔ ∃ rs : List Sr, (rs.length = 16 ∧ ∀ i r, rs[i]? = some r → r.ss = f i) ∧ SatL w (Sl 43 sv (rs.map (·.v)) :: srB rs :: L) := by
  simp only [SeenF, sat_ex, sat_sep, List.cons_append, List.nil_append, sat_pur]
theorem srB_nil : ∀ (n : Nat) {L : List HP}, SatL w L → SatL w (srB (List.replicate n ⟨.slice none 0 0, []⟩) :: L)
  | 0, L, h => (big_nil).2 h
  | n + 1, L, h => (big_cons (f := fun r : Sr => Sl 9 r.v (r.ss.map strV)) (x := (⟨.slice none 0 0, []⟩ : Sr)) (xs := List.replicate n ⟨.slice none 0 0, []⟩)).2 (Sl_nil (srB_nil n h))
theorem SeenF.mk (h : SatL w (Sl 43 sv (List.replicate 16 (.slice none 0 0)) :: L)) : SatL w (SeenF sv (fun _ => []) :: L) := by
  refine sat_SeenF.2 ⟨List.replicate 16 ⟨.slice none 0 0, []⟩, ⟨List.length_replicate .., fun i r hr => ?_⟩, ?_⟩
  · rw [List.eq_of_mem_replicate (List.mem_of_getElem? hr)]
  · rw [List.map_replicate]
    exact (srB_nil 16 h.tail |> fun _ => (srB_nil 16 h)).swap
theorem SeenF.congr {g : Nat → List (List UInt8)} (h : SatL w (SeenF sv f :: L)) (hg : ∀ i, i < 16 → f i = g i) : SatL w (SeenF sv g :: L) := by
  obtain ⟨rs, ⟨hl, hf⟩, h1⟩ := sat_SeenF.1 h
  exact sat_SeenF.2 ⟨rs, ⟨hl, fun i r hr => (hf i r hr).trans (hg i (by have := (List.getElem?_eq_some_iff.1 hr).1; omega))⟩, h1⟩
theorem Sl.one {nb T : Nat} {y : Value} (h : SatL w (cl nb T #[y] :: L)) : SatL w (Sl T (.slice (some ⟨nb, 0, none⟩) 1 1) [y] :: L) :=
  Sl.ofK (n := 1) (sat_SlK.2 (.inr ⟨nb, 0, 1, #[y], ⟨rfl, Nat.le_refl _, by unfold maxLen; omega, by simp, by simp, by simp⟩, h⟩))
/-- one row, and the rest -/
theorem seen_open {b o n c : Nat} (h : SatL w (SeenF (.slice (some ⟨b, o, none⟩) n c) f :: L)) {i : Nat} (hi : i < 16) : ∃ (u : Value) (R : HP), SatL w (Sl 9 u ((f i).map strV) :: R :: L) ∧
    (∀ (w' : World) (L' : List HP), SatL w' (R :: L') → w'.cell? ⟨b, o + i, none⟩ = some u ∧ w'.frozen? ⟨b, o + i, none⟩ = false) ∧
    (∀ (w' : World) (L' : List HP), SatL w' (Sl 9 u ((f i).map strV) :: R :: L') → SatL w' (SeenF (.slice (some ⟨b, o, none⟩) n c) f :: L')) ∧
    (∀ (w' : World) (v : Value) (l : List (List UInt8)) (L' : List HP), SatL w' (Sl 9 v (l.map strV) :: R :: L') → SatL (w'.setCell ⟨b, o + i, none⟩ v) (SeenF (.slice (some ⟨b, o, none⟩) n c) (fun j => if j = i then l else f j) :: L')) := by
  obtain ⟨rs, ⟨hl, hf⟩, h1⟩ := sat_SeenF.1 h
  have hil : i < rs.length := by omega
  obtain ⟨r, hr⟩ : ∃ r, rs[i]? = some r := ⟨_, List.getElem?_eq_getElem hil⟩
  have hsp : rs = rs.take i ++ r :: rs.drop (i + 1) := by
    have := List.take_append_drop i rs
    rw [List.drop_eq_getElem_cons hil, (List.getElem?_eq_some_iff.1 hr).2] at this
    exact this.symm
  have hset : ∀ x, rs.set i x = rs.take i ++ x :: rs.drop (i + 1) := fun x => by rw [List.set_eq_take_append_cons_drop, if_pos hil]
  have hri := hf i r hr
  have hb : ∀ (w' : World) (x : Sr) (L' : List HP), SatL w' (srB (rs.set i x) :: L') ↔ SatL w' (Sl 9 x.v (x.ss.map strV) :: srB (rs.take i ++ rs.drop (i + 1)) :: L') := fun w' x L' => by
    rw [show srB (rs.set i x) = srB (rs.take i ++ x :: rs.drop (i + 1)) from congrArg srB (hset x)]
    exact big_mid
  have hself : rs.set i r = rs := by rw [hset r]; exact hsp.symm
  have h2 : SatL w (srB (rs.set i r) :: Sl 43 (.slice (some ⟨b, o, none⟩) n c) (rs.map (·.v)) :: L) := by rw [hself]; exact h1.swap
  have h3 := (hb _ _ _).1 h2
  refine ⟨r.v, sep [Sl 43 (.slice (some ⟨b, o, none⟩) n c) (rs.map (·.v)), srB (rs.take i ++ rs.drop (i + 1))], ?_, ?_, ?_, ?_⟩
  · rw [← hri]
    have h4 : SatL w (sep [Sl 43 (.slice (some ⟨b, o, none⟩) n c) (rs.map (·.v)), srB (rs.take i ++ rs.drop (i + 1))] :: Sl 9 r.v (r.ss.map strV) :: L) := sat_sep.2 (h3.bring [2, 1, 0])
    exact h4.swap
  · intro w' L' h
    have h4 : SatL w' (Sl 43 (.slice (some ⟨b, o, none⟩) n c) (rs.map (·.v)) :: _) := sat_sep.1 h
    exact ⟨Sl.cell h4 (by rw [List.getElem?_map, hr]; rfl), Sl.free h4 _⟩
  · intro w' L' h
    rw [← hri] at h
    have h4 := sat_sep.1 h.swap
    have h5 := (hb w' r _).2 (h4.bring [2, 1, 0])
    rw [hself] at h5
    exact sat_SeenF.2 ⟨rs, ⟨hl, hf⟩, h5.swap⟩
  · intro w' v l L' h
    have h4 : SatL w' (Sl 43 (.slice (some ⟨b, o, none⟩) n c) (rs.map (·.v)) :: srB (rs.take i ++ rs.drop (i + 1)) :: Sl 9 v (l.map strV) :: L') := sat_sep.1 h.swap
    have h5 := Sl.set h4 (i := i) (by rw [List.length_map]; exact hil) v
    have h6 := (hb _ ⟨v, l⟩ _).2 (h5.bring [2, 1, 0])
    refine sat_SeenF.2 ⟨rs.set i ⟨v, l⟩, ⟨by rw [List.length_set]; exact hl, fun j x hx => ?_⟩, ?_⟩
    · rw [List.getElem?_set] at hx
      by_cases hj : i = j
      · rw [if_pos hj, if_pos hil] at hx
        injection hx with hx
        rw [if_pos hj.symm, ← hx]
      · rw [if_neg hj] at hx
        rw [if_neg (fun e => hj e.symm)]
        exact hf j x hx
    · rw [List.map_set]
      exact h6.swap
end
theorem elem_seen : ElemOk Try.prog 42 43 1 24 [Value.slice none 0 0] := .of (z := .slice none 0 0) (by kernel_rfl) (by kernel_rfl) rfl rfl (by decide) (by simp [Value.oneCell'])
theorem elem_str : ElemOk Try.prog 43 9 1 16 [Value.string ByteArray.empty] := .of (z := .string ByteArray.empty) (by kernel_rfl) (by kernel_rfl) rfl rfl (by decide) (by simp [Value.oneCell'])
/-- an operation that is guarded off -/
theorem GoE.skip {P : Program} {Q : Exit → Act → World → Prop} {md : Region.Mode} {S : World → Prop} {m : Nat} {l : List Oper} {i n : Nat} {o : Oper} {r : List Oper} {li : Array Bool} {a : Act} {w : World} (hi : l.drop i = o :: r) (him : i < m) (hcov : coverB md l.toArray m = true) (hs : Region.noSelect l.toArray = true) (hf : Region.free md l.toArray li i = true)
    (hr : (Region.ready md l.toArray li).contains i = true) (hQ : ∀ c a w, Q (.panic c) (a.put o.dst undef) w → Q (.panic c) a w) (hw : Region.wanted o (yielded l.toArray a.tmps) = false) (hS : S w)
    (h : GoE P md l Q S m n (li.setIfInBounds i true) (a.put o.dst undef) w) : GoE P md l Q S m (n + 1) li a w := fun hc => by
  have hr' : i ∈ Region.ready md l.toArray li := by simpa using hr
  exact AnyE.first hcov him (drop_get hi) hs hQ n li a w hc (fun j oj => Region.free_spec (drop_get hi) hf j oj) hr' (.inr ⟨hw, rfl⟩) hS (h (hc.set hr'))
/-- the further calls -/
def wrK (s : Dsk) (At : Nat → Int) (B : Nat → Nat) : Nat → Dsk
  | 0 => s
  | k + 1 => (wrK s At B k).put (wi (At k) 16) (blockB (B k))
theorem wrK_n (s : Dsk) (At : Nat → Int) (B : Nat → Nat) : ∀ k, (wrK s At B k).n = s.n
  | 0 => rfl
  | k + 1 => wrK_n s At B k
theorem wrK_P (s : Dsk) (At : Nat → Int) (B : Nat → Nat) : ∀ k, (wrK s At B k).P = s.P
  | 0 => rfl
  | k + 1 => wrK_P s At B k
theorem wrK_le {s : Dsk} (h : ∀ i, (s.V i).length ≤ 0) (At : Nat → Int) (B : Nat → Nat) : ∀ k i, ((wrK s At B k).V i).length ≤ k
  | 0 => h
  | k + 1 => put_le (wrK_le h At B k) (Nat.le_refl _)
/-- what was seen of a block -/
def seenS (s : Dsk) (i : Nat) : List (List UInt8) := s.P i :: s.V i
theorem seenS_put (s : Dsk) (p : Nat) (r : List UInt8) : (fun j => if j = p then seenS s p ++ [r] else seenS s j) = seenS (s.put p r) := by
  funext j
  unfold seenS
  rw [put_V]
  by_cases hj : j = p
  · subst hj
    rw [if_pos rfl, if_pos rfl]; rfl
  · rw [if_neg hj, if_neg hj]; rfl
theorem cp_seen (s : Dsk) (n : Nat) (Z : Nat → Int) : ∀ Q i, s.cp n Z Q i ∈ seenS s i
  | 0, i => List.mem_cons_self
  | Q + 1, i => by
    show (if _ then _ else _) ∈ _
    split
    · rename_i h
      have hl := pickN_le n Z Q (s.V i).length
      have h0 := h.2
      rw [List.getD_eq_getElem?_getD, List.getElem?_eq_getElem (by omega)]
      exact List.mem_cons_of_mem _ (List.getElem_mem _)
    · exact cp_seen s n Z Q i
theorem flushed_dirty (s : Dsk) : s.flushed.dirtyN = [] := by
  unfold Dsk.dirtyN
  rw [List.filter_eq_nil_iff]
  intro a _ h
  exact absurd h (by show ¬ (!([] : List (List UInt8)).isEmpty) = true; decide)
theorem crash_clean (s : Dsk) (n : Nat) (Z : Nat → Int) : s.flushed.crash n Z = s.flushed := by
  unfold Dsk.crash
  rw [flushed_dirty]
  rfl
theorem crash_dirty (s : Dsk) (n : Nat) (Z : Nat → Int) : (s.crash n Z).dirty = [] := by
  unfold Dsk.dirty Dsk.dirtyN
  rw [List.filter_eq_nil_iff.2]; rfl
  intro a _ h
  exact absurd h (by show ¬ (!([] : List (List UInt8)).isEmpty) = true; decide)
end Go.Proofs.Ytjjiljijcigekaa
