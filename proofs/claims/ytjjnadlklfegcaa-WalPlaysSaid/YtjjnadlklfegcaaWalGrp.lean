/- Groups of a log, as lists: where a block stands, what joining does; and as what is owned. No condition. -/
import Derived.Test.YtjjnadlklfegcaaLogRd
import Derived.Test.YtjjnadlklfegcaaClone
import Derived.Test.YtjjnadlklfegcaaMapLen
namespace Go.Proofs.Ytjjnadlklfegcaa
set_option linter.unusedVariables false
set_option linter.unusedSimpArgs false
open Go.RowKit

/-- where a number stands first -/
def plc : List Int → Int → Option Nat
  | [], _ => none
  | x :: l, k => if x = k then some 0 else (plc l k).map (· + 1)
theorem plc_get : ∀ {l : List Int} {k : Int} {i : Nat}, plc l k = some i → l[i]? = some k
  | [], _, _, h => by simp [plc] at h
  | x :: l, k, i, h => by
    unfold plc at h
    split at h
    · rename_i e; injection h with h; subst h; simp [e]
    · cases hp : plc l k with
      | none => rw [hp] at h; simp at h
      | some j => rw [hp] at h; simp at h; subst h; simpa using plc_get hp
theorem plc_lt {l : List Int} {k : Int} {i : Nat} (h : plc l k = some i) : i < l.length := (List.getElem?_eq_some_iff.1 (plc_get h)).1
theorem plc_none : ∀ {l : List Int} {k : Int}, plc l k = none ↔ k ∉ l
  | [], k => by simp [plc]
  | x :: l, k => by
    unfold plc
    by_cases e : x = k
    · simp [e]
    · rw [if_neg e, Option.map_eq_none_iff, plc_none, List.mem_cons]
      exact ⟨fun h k' => k'.elim (fun e' => e e'.symm) h, fun h k' => h (.inr k')⟩
theorem plc_snoc : ∀ (l : List Int) (x k : Int), plc (l ++ [x]) k = (plc l k).or (if x = k then some l.length else none)
  | [], x, k => by simp [plc]
  | y :: l, x, k => by
    show (if y = k then some 0 else (plc (l ++ [x]) k).map (· + 1)) = ((if y = k then some 0 else (plc l k).map (· + 1))).or _
    by_cases e : y = k
    · rw [if_pos e, if_pos e]; rfl
    · rw [if_neg e, if_neg e, plc_snoc l x k]
      cases plc l k with
      | some j => rfl
      | none => by_cases e2 : x = k <;> simp [e2]
/-- a block joins -/
def gput (l : List PD) (p : PD) : List PD := match plc (l.map (·.1)) p.1 with | some i => l.set i p | none => l ++ [p]
def gputs (l : List PD) (ps : List PD) : List PD := ps.foldl gput l
def gfind (l : List PD) (b : Int) : Option (List UInt8) := match plc (l.map (·.1)) b with | some i => l[i]?.map (·.2) | none => none
theorem gput_keys (l : List PD) (p : PD) : (gput l p).map (·.1) = if p.1 ∈ l.map (·.1) then l.map (·.1) else l.map (·.1) ++ [p.1] := by
  unfold gput
  cases hp : plc (l.map (·.1)) p.1 with
  | none => rw [if_neg (plc_none.1 hp), List.map_append]; rfl
  | some i =>
    have h1 := plc_get hp
    have hm : p.1 ∈ l.map (·.1) := List.mem_of_getElem? h1
    rw [if_pos hm]
    simp only [List.map_set]
    apply List.ext_getElem?
    intro j
    rw [List.getElem?_set]
    split
    · rename_i e; subst e
      rw [if_pos (plc_lt hp), h1]
    · rfl
theorem gput_nodup {l : List PD} (h : (l.map (·.1)).Nodup) (p : PD) : ((gput l p).map (·.1)).Nodup := by
  rw [gput_keys]
  split
  · exact h
  · rename_i hm
    rw [List.nodup_append]
    exact ⟨h, by simp, fun a ha b hb e => by rw [List.mem_singleton.1 hb] at e; exact hm (e ▸ ha)⟩
theorem gput_mem (l : List PD) (p : PD) (k : Int) : k ∈ (gput l p).map (·.1) ↔ k ∈ l.map (·.1) ∨ k = p.1 := by
  rw [gput_keys]
  split
  · rename_i h; exact ⟨.inl, fun k' => k'.elim id (fun e => e ▸ h)⟩
  · rw [List.mem_append, List.mem_singleton]
theorem gput_len (l : List PD) (p : PD) : (gput l p).length = if p.1 ∈ l.map (·.1) then l.length else l.length + 1 := by
  have h := congrArg List.length (gput_keys l p)
  rw [List.length_map] at h
  rw [h]; split <;> simp
theorem gput_ge (l : List PD) (p : PD) : l.length ≤ (gput l p).length := by rw [gput_len]; split <;> omega
theorem gput_le (l : List PD) (p : PD) : (gput l p).length ≤ l.length + 1 := by rw [gput_len]; split <;> omega
theorem gputs_snoc (l ps : List PD) (p : PD) : gputs l (ps ++ [p]) = gput (gputs l ps) p := by unfold gputs; rw [List.foldl_append]; rfl
theorem gputs_ge (l : List PD) (ps : List PD) : l.length ≤ (gputs l ps).length := by
  induction ps generalizing l with
  | nil => exact Nat.le_refl _
  | cons p ps ih => exact Nat.le_trans (gput_ge l p) (ih (gput l p))
theorem gputs_le (l : List PD) (ps : List PD) : (gputs l ps).length ≤ l.length + ps.length := by
  induction ps generalizing l with
  | nil => exact Nat.le_refl _
  | cons p ps ih =>
    have h1 := gput_le l p
    have h2 := ih (gput l p)
    show (gputs (gput l p) ps).length ≤ _
    rw [List.length_cons]; omega
theorem gputs_take_le (l ps : List PD) (j : Nat) : (gputs l (ps.take j)).length ≤ (gputs l ps).length := by
  have e : gputs l ps = gputs (gputs l (ps.take j)) (ps.drop j) := by
    unfold gputs; rw [← List.foldl_append, List.take_append_drop]
  rw [e]; exact gputs_ge _ _
theorem gputs_mem (l : List PD) (ps : List PD) (k : Int) : k ∈ (gputs l ps).map (·.1) ↔ k ∈ l.map (·.1) ∨ k ∈ ps.map (·.1) := by
  induction ps generalizing l with
  | nil => simp [gputs]
  | cons p ps ih =>
    show k ∈ (gputs (gput l p) ps).map (·.1) ↔ _
    rw [ih, gput_mem, List.map_cons, List.mem_cons]
    constructor
    · rintro ((h | h) | h)
      · exact .inl h
      · exact .inr (.inl h)
      · exact .inr (.inr h)
    · rintro (h | h | h)
      · exact .inl (.inl h)
      · exact .inl (.inr h)
      · exact .inr h
theorem gputs_nodup {l : List PD} (h : (l.map (·.1)).Nodup) (ps : List PD) : ((gputs l ps).map (·.1)).Nodup := by
  induction ps generalizing l with
  | nil => exact h
  | cons p ps ih => exact ih (gput_nodup h p)
/-- every block of what joined came from somewhere -/
theorem gput_all {F : PD → Prop} {l : List PD} {p : PD} (h : ∀ q ∈ l, F q) (hp : F p) : ∀ q ∈ gput l p, F q := by
  intro q hq
  unfold gput at hq
  split at hq
  · rcases List.mem_or_eq_of_mem_set hq with hq | hq
    · exact h q hq
    · rw [hq]; exact hp
  · rcases List.mem_append.1 hq with hq | hq
    · exact h q hq
    · rw [List.mem_singleton.1 hq]; exact hp
theorem gputs_all {F : PD → Prop} {l : List PD} (ps : List PD) (h : ∀ q ∈ l, F q) (hp : ∀ q ∈ ps, F q) : ∀ q ∈ gputs l ps, F q := by
  induction ps generalizing l with
  | nil => exact h
  | cons p ps ih => exact ih (gput_all h (hp p (by simp))) (fun q hq => hp q (List.mem_cons_of_mem _ hq))

/-- the map of a group tells each block's place -/
def Grp (es : IM) (ks : List Int) : Prop := ks.Nodup ∧ ∀ k, mget es k = (plc ks k).map (fun i : Nat => Value.int .i64 (i : Int))
theorem Grp.nil : Grp [] [] := ⟨List.nodup_nil, fun k => rfl⟩
theorem Grp.push {es : IM} {ks : List Int} {b : Int} (G : Grp es ks) (hb : b ∉ ks) : Grp (mput es b (.int .i64 (ks.length : Nat))) (ks ++ [b]) := by
  refine ⟨?_, fun k => ?_⟩
  · rw [List.nodup_append]
    exact ⟨G.1, by simp, fun a ha c hc e => by rw [List.mem_singleton.1 hc] at e; exact hb (e ▸ ha)⟩
  · rw [mget_put, plc_snoc, G.2]
    by_cases e : k = b
    · subst e; rw [if_pos rfl, plc_none.2 hb, if_pos rfl]; rfl
    · rw [if_neg e, if_neg (fun h => e h.symm), Option.or_none]

section
variable {w : World} {L : List HP}
/-- a block's bytes are laid anew -/
theorem PutsR.setv {b off n c : Nat} {ps : List Pt} {p : Pt} {i : Nat} {v : Value} {d : List UInt8} (h : SatL w (PutsR (.slice (some ⟨b, off, none⟩) n c) ps :: SlB 5 v d :: L)) (hp : ps[i]? = some p) :
    SatL (w.setCell ⟨b, off + i * 2 + 1, none⟩ v) (PutsR (.slice (some ⟨b, off, none⟩) n c) (ps.set i ⟨p.b, v, d⟩) :: L) := by
  have hi : i < ps.length := (List.getElem?_eq_some_iff.1 hp).1
  have h1 := sat_PutsR.1 h
  have hn : n = ps.length := by
    obtain ⟨a, c', e, _⟩ := SlK.valn h1
    injection e
  subst hn
  have hx : i * 2 + 1 < (pcells ps).length := by rw [pcells_len]; omega
  have h2 := SlK.set h1 hx v
  rw [← Nat.add_assoc] at h2
  have e1 : (pcells ps).set (i * 2 + 1) v = pcells (ps.set i ⟨p.b, v, d⟩) := by
    clear h1 h2 hx h
    induction ps generalizing i with
    | nil => simp at hi
    | cons q ps ih =>
      cases i with
      | zero => simp at hp; subst hp; rfl
      | succ i =>
        have e := ih (i := i) (by simpa using hp) (by simpa using hi)
        rw [List.set_cons_succ]
        show (Value.int .i64 q.b :: q.v :: pcells ps).set ((i + 1) * 2 + 1) v = Value.int .i64 q.b :: q.v :: pcells (ps.set i ⟨p.b, v, d⟩)
        rw [← e, show (i + 1) * 2 + 1 = i * 2 + 1 + 1 + 1 by omega]
        rfl
  rw [e1] at h2
  have h3 := h2.swap
  have hsp : ps = ps.take i ++ p :: ps.drop (i + 1) := by
    have := List.take_append_drop i ps
    rw [List.drop_eq_getElem_cons hi] at this
    have e := (List.getElem?_eq_some_iff.1 hp).2
    rw [e] at this; exact this.symm
  have e2 : ps.set i ⟨p.b, v, d⟩ = ps.take i ++ ⟨p.b, v, d⟩ :: ps.drop (i + 1) := by
    rw [List.set_eq_take_append_cons_drop, if_pos hi]
  have e0 : big (fun p : Pt => SlB 5 p.v p.d) ps = big (fun p : Pt => SlB 5 p.v p.d) (ps.take i ++ p :: ps.drop (i + 1)) := congrArg _ hsp
  have e3 : big (fun p : Pt => SlB 5 p.v p.d) (ps.set i ⟨p.b, v, d⟩) = big (fun p : Pt => SlB 5 p.v p.d) (ps.take i ++ ⟨p.b, v, d⟩ :: ps.drop (i + 1)) := congrArg _ e2
  rw [e0] at h3
  have h5 := (big_mid.1 h3).tail
  have h6 := (h5.bring [2, 0, 1])
  have h7 := (big_mid (f := fun p : Pt => SlB 5 p.v p.d) (x := (⟨p.b, v, d⟩ : Pt)) (a := ps.take i) (b := ps.drop (i + 1))).2 h6
  rw [← e3] at h7
  refine sat_PutsR.2 ?_
  have h8 := h7.swap
  rw [List.length_set]
  exact h8
end
end Go.Proofs.Ytjjnadlklfegcaa
