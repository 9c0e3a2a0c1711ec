/- A volume's base: rows of bytes, some of them not there; how a new one is made. -/
import Derived.Test.YtklnlomleiebaaaMkB
import Derived.Test.YtklnlomleiebaaaStore
namespace Go.Proofs.Ytklnlomleiebaaa
set_option linter.unusedVariables false
set_option linter.unusedSimpArgs false
open Go.RowKit

structure Rw where
  v : Value
  d : Option (List UInt8)
def RwP (r : Rw) : HP := match r.d with | none => pur (r.v = .slice none 0 0) | some d => SlB 5 r.v d
abbrev rvals (q : List Rw) : List Value := q.map (·.v)
abbrev rdata (q : List Rw) : List (Option (List UInt8)) := q.map (·.d)
abbrev bools (l : List Bool) : List Value := l.map Value.bool
/-- the rows of a base, its header apart -/
def RowsR (bv : Value) (rows : List (Option (List UInt8))) : HP := ex fun q : List Rw => sep [pur (rdata q = rows), Sl 42 bv (rvals q), big RwP q]
def BaseR (mb : Nat) (rows : List (Option (List UInt8))) (lack : List Bool) : HP :=
  ex fun p : Value × Value => sep [cl mb 64 #[p.1, p.2], RowsR p.1 rows, Sl 4 p.2 (bools lack)]
def setRow (r : List (Option (List UInt8))) (p : Int × List UInt8) : List (Option (List UInt8)) := r.set p.1.toNat (some p.2)
def rowsOf (n : Nat) (l : List (Int × List UInt8)) : List (Option (List UInt8)) := l.foldl setRow (List.replicate n none)
theorem foldl_len (l : List (Int × List UInt8)) : ∀ r, (l.foldl setRow r).length = r.length := by
  induction l with
  | nil => intro r; rfl
  | cons p l ih => intro r; rw [List.foldl_cons, ih]; simp [setRow]
theorem rowsOf_len (n : Nat) (l : List (Int × List UInt8)) : (rowsOf n l).length = n := by rw [rowsOf, foldl_len, List.length_replicate]
theorem rowsOf_snoc (n : Nat) (l : List (Int × List UInt8)) (p : Int × List UInt8) : rowsOf n (l ++ [p]) = setRow (rowsOf n l) p := by simp [rowsOf]
theorem elem_rows : ElemOk Try.prog 61 42 1 24 [Value.slice none 0 0] := .of (z := .slice none 0 0) (by kernel_rfl) (by kernel_rfl) rfl rfl (by decide) (by simp [Value.oneCell'])
theorem elem_bool : ElemOk Try.prog 62 4 1 1 [Value.bool false] := .of (z := .bool false) (by kernel_rfl) (by kernel_rfl) rfl rfl (by decide) (by simp [Value.oneCell'])

section
variable {w : World} {L : List HP}
theorem sat_RowsR {bv : Value} {rows : List (Option (List UInt8))} : SatL w (RowsR bv rows :: L) ↔ ∃ q, rdata q = rows ∧ SatL w (Sl 42 bv (rvals q) :: big RwP q :: L) := by
  simp only [RowsR, sat_ex, sat_sep, List.cons_append, List.nil_append, sat_pur]
theorem sat_BaseR {mb : Nat} {rows : List (Option (List UInt8))} {lack : List Bool} : SatL w (BaseR mb rows lack :: L) ↔ ∃ bv lv, SatL w (cl mb 64 #[bv, lv] :: RowsR bv rows :: Sl 4 lv (bools lack) :: L) := by
  constructor
  · intro h
    obtain ⟨⟨a, b⟩, h⟩ := sat_ex.1 h
    exact ⟨a, b, sat_sep.1 h⟩
  · rintro ⟨a, b, h⟩
    exact sat_ex.2 ⟨(a, b), sat_sep.2 h⟩
theorem big_get {α : Type} {f : α → HP} {xs : List α} {i : Nat} {x : α} (hx : xs[i]? = some x) : SatL w (big f xs :: L) ↔ SatL w (f x :: big f (xs.take i ++ xs.drop (i + 1)) :: L) := by
  have hi : i < xs.length := (List.getElem?_eq_some_iff.1 hx).1
  have e : xs = xs.take i ++ x :: xs.drop (i + 1) := by
    have h1 := List.take_append_drop i xs
    rw [List.drop_eq_getElem_cons hi, (List.getElem?_eq_some_iff.1 hx).2] at h1
    exact h1.symm
  conv => lhs; rw [e]
  exact big_mid
theorem big_put {α : Type} {f : α → HP} {xs : List α} {i : Nat} {y : α} (hi : i < xs.length) (h : SatL w (f y :: big f (xs.take i ++ xs.drop (i + 1)) :: L)) : SatL w (big f (xs.set i y) :: L) := by
  rw [List.set_eq_take_append_cons_drop, if_pos hi]
  exact big_mid.2 h
theorem big_none (n : Nat) (h : SatL w L) : SatL w (big RwP (List.replicate n ⟨.slice none 0 0, none⟩) :: L) := by
  induction n with
  | zero => exact big_nil.2 h
  | succ n ih => rw [List.replicate_succ]; exact big_cons.2 (sat_pur.2 ⟨rfl, ih⟩)
theorem RowsR.zero (n : Nat) {bv : Value} (h : SatL w (Sl 42 bv (List.replicate n (.slice none 0 0)) :: L)) : SatL w (RowsR bv (List.replicate n none) :: L) :=
  sat_RowsR.2 ⟨List.replicate n ⟨.slice none 0 0, none⟩, by simp [rdata], by
    have := (big_none n h).swap
    simpa [rvals] using this⟩
theorem RowsR.len {bv : Value} {rows : List (Option (List UInt8))} (h : SatL w (RowsR bv rows :: L)) {m : Nat} (hm : rows.length = m) : ∃ a c, bv = .slice a m c ∧ m ≤ c ∧ c ≤ 9223372036854775807 := by
  obtain ⟨q, rfl, h1⟩ := sat_RowsR.1 h
  exact Sl.valn h1 (by rw [← hm]; simp)
/-- a row is laid into a base -/
theorem RowsR.put {b off n c k : Nat} {rows : List (Option (List UInt8))} {v : Value} {d : List UInt8} (h : SatL w (RowsR (.slice (some ⟨b, off, none⟩) n c) rows :: SlB 5 v d :: L)) (hk : k < rows.length) :
    SatL (w.setCell ⟨b, off + k, none⟩ v) (RowsR (.slice (some ⟨b, off, none⟩) n c) (rows.set k (some d)) :: L) := by
  obtain ⟨q, rfl, h1⟩ := sat_RowsR.1 h
  have hq : k < q.length := by simpa using hk
  have h2 := Sl.set h1 (i := k) (by simpa using hq) v
  have h3 := big_put (f := RwP) (y := ⟨v, some d⟩) hq ((SatL.tail ((big_get (List.getElem?_eq_getElem hq)).1 (h2.pull 1))).bring [2, 0])
  exact sat_RowsR.2 ⟨q.set k ⟨v, some d⟩, by simp [rdata, List.map_set], by rw [rvals, List.map_set]; exact h3.swap⟩
theorem RowsR.rows {bv : Value} {rows : List (Option (List UInt8))} (h : SatL w (RowsR bv rows :: L)) {k : Nat} {d : List UInt8} (hk : rows[k]? = some (some d)) :
    ∃ v, (∀ b off n c, bv = .slice (some ⟨b, off, none⟩) n c → w.cell? ⟨b, off + k, none⟩ = some v) ∧ ∃ M, SatL w (SlB 5 v d :: M) ∧ (∀ (w' : World), SatL w' (SlB 5 v d :: M) → SatL w' (RowsR bv rows :: L)) := by
  obtain ⟨q, rfl, h1⟩ := sat_RowsR.1 h
  have hk' := hk
  rw [List.getElem?_map] at hk'
  cases hq : q[k]? with
  | none => rw [hq] at hk'; cases hk'
  | some r =>
    rw [hq] at hk'
    obtain ⟨v, d'⟩ := r
    simp only [Option.map_some, Option.some.injEq] at hk'
    subst hk'
    have hv : (rvals q)[k]? = some v := by rw [List.getElem?_map, hq]; rfl
    refine ⟨v, ?_, Sl 42 bv (rvals q) :: big RwP (q.take k ++ q.drop (k + 1)) :: L, ?_, ?_⟩
    · rintro b off n c rfl; exact Sl.cell h1 hv
    · exact (((big_get hq).1 (h1.pull 1)).bring [0, 2])
    · intro w' h2
      exact sat_RowsR.2 ⟨q, rfl, ((big_get hq).2 (h2.bring [0, 2])).swap⟩
theorem RowsR.free {b off n c : Nat} {rows : List (Option (List UInt8))} (h : SatL w (RowsR (.slice (some ⟨b, off, none⟩) n c) rows :: L)) (i : Nat) : w.frozen? ⟨b, i, none⟩ = false := by
  obtain ⟨q, rfl, h1⟩ := sat_RowsR.1 h
  exact Sl.free h1 i
theorem RowsR.at {b off n c k : Nat} {rows : List (Option (List UInt8))} (h : SatL w (RowsR (.slice (some ⟨b, off, none⟩) n c) rows :: L)) (hk : k < rows.length) : ∃ v, w.cell? ⟨b, off + k, none⟩ = some v := by
  obtain ⟨q, rfl, h1⟩ := sat_RowsR.1 h
  exact ⟨_, Sl.cell h1 (i := k) (List.getElem?_eq_getElem (by simpa using hk))⟩
theorem pcells_get {ps : List Pt} {j : Nat} {p : Pt} (h : ps[j]? = some p) : (pcells ps)[j * 2]? = some (.int .i64 p.b) ∧ (pcells ps)[j * 2 + 1]? = some p.v := by
  induction ps generalizing j with
  | nil => cases h
  | cons x ps ih =>
    have e : pcells (x :: ps) = .int .i64 x.b :: x.v :: pcells ps := rfl
    cases j with
    | zero => simp only [List.getElem?_cons_zero, Option.some.injEq] at h; subst h; exact ⟨rfl, rfl⟩
    | succ j =>
      rw [List.getElem?_cons_succ] at h
      have := ih h
      rw [e]
      constructor
      · rw [show (j + 1) * 2 = (j * 2 + 1) + 1 by omega, List.getElem?_cons_succ, List.getElem?_cons_succ]; exact this.1
      · rw [show (j + 1) * 2 + 1 = (j * 2 + 1 + 1) + 1 by omega, List.getElem?_cons_succ, List.getElem?_cons_succ]; exact this.2
theorem bmList_in {b dt n : Nat} {p : Int × List UInt8} (h : p ∈ bmList b dt n) : 69 ≤ p.1 ∧ p.1 < 69 + n := by
  unfold bmList at h
  obtain ⟨q, hq, hp⟩ := List.mem_flatMap.1 h
  have := List.mem_range.1 hq
  split at hp
  · rw [List.mem_singleton] at hp; subst hp; show (69 : Int) ≤ ((69 + q : Nat) : Int) ∧ ((69 + q : Nat) : Int) < 69 + n; omega
  · cases hp
theorem mkfsL_in {b i sec nsec : Nat} (hg : planGood b i) (he : planErr b i = 0) : ∀ p ∈ mkfsL b i sec nsec, 0 ≤ p.1 ∧ p.1 < b := by
  obtain ⟨_, _, hd8, ht0, ht1⟩ := plan_nat hg he
  have hdt : tableN b ≤ dataN b i := by unfold dataN; omega
  intro p hp
  unfold mkfsL at hp
  simp only [List.mem_append, List.mem_cons, List.not_mem_nil, or_false] at hp
  rcases hp with ((rfl | rfl) | hp) | rfl | rfl
  · exact ⟨by show (0 : Int) ≤ 0; omega, by show (0 : Int) < b; omega⟩
  · exact ⟨by show (0 : Int) ≤ 68; omega, by show (68 : Int) < b; omega⟩
  · have := bmList_in hp; omega
  · exact ⟨by show (0 : Int) ≤ (tableN b : Int); omega, by show (tableN b : Int) < b; omega⟩
  · exact ⟨by show (0 : Int) ≤ (dataN b i : Int); omega, by show (dataN b i : Int) < b; omega⟩
end
end Go.Proofs.Ytklnlomleiebaaa
