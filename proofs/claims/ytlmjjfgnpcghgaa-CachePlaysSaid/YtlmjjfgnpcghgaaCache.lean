/- A cache that is owned: its blocks, and what stands in them. No condition. -/
import Derived.Test.YtlmjjfgnpcghgaaFuncs
import Derived.Test.YtlmjjfgnpcghgaaMap
import Derived.RegionTactic
import Derived.Deep.QuietTactic
import Derived.BigQuiet
import Derived.Deep.RegionWith
import Derived.LaidEqlPtr
namespace Go.Proofs.Ytlmjjfgnpcghgaa
set_option linter.unusedVariables false
set_option linter.unusedSimpArgs false
open Go.RowKit

structure Ent where
  eb : Nat
  b : Int
  dv : Value
  data : List Value
  dirty : Bool
  pins : Int

abbrev EntC (x : Ent) : HP := cl x.eb 60 #[x.dv, .bool x.dirty, .int .i64 x.pins, .int .i64 x.b]
def EntR (x : Ent) : HP := sep [EntC x, Sl 5 x.dv x.data]
def eptr (x : Ent) : Value := .pointer (some ⟨x.eb, 0, none⟩)
abbrev ER (row : List Ent) : HP := big EntR row
abbrev has (k : Int) (x : Ent) : Bool := x.b == k
structure MapOk (es : IM) (row : List Ent) : Prop where
  look : ∀ k, mget es k = (row.find? (has k)).map eptr
  nodup : (row.map (·.b)).Nodup
abbrev CacheC (pb : Nat) (most : Int) (rv : Value) (mb : Nat) : HP := cl pb 53 #[.int .i64 most, rv, .map (some mb)]
def CacheR (pb : Nat) (most : Int) (row : List Ent) : HP := ex fun rv => ex fun mb => ex fun es =>
  sep [pur (MapOk es row), CacheC pb most rv mb, Sl 54 rv (row.map eptr), MapI mb es, ER row]
abbrev CacheO (pb : Nat) (most : Int) (rv : Value) (mb : Nat) (es : IM) (row : List Ent) (l : List HP) : List HP := CacheC pb most rv mb :: Sl 54 rv (row.map eptr) :: MapI mb es :: ER row :: l

theorem MapOk.congr {es : IM} {row row' : List Ent} (h : MapOk es row) (hr : row'.map (fun x => (x.b, x.eb)) = row.map (fun x => (x.b, x.eb))) : MapOk es row' := by
  refine ⟨fun k => ?_, ?_⟩
  · rw [h.look]
    clear h
    induction row' generalizing row with
    | nil => cases row with | nil => rfl | cons _ _ => simp at hr
    | cons x row' ih =>
      cases row with
      | nil => simp at hr
      | cons y row =>
        simp only [List.map_cons, List.cons.injEq, Prod.mk.injEq] at hr
        simp only [List.find?_cons, has, hr.1.1]
        split
        · simp [eptr, hr.1.2]
        · exact ih hr.2
  · have : row'.map (·.b) = row.map (·.b) := by
      have := congrArg (List.map Prod.fst) hr
      simpa [List.map_map, Function.comp_def] using this
    rw [this]; exact h.nodup

section
variable {w : World} {l : List HP} {pb : Nat} {most : Int} {row : List Ent}

theorem Cache_open : SatL w (CacheR pb most row :: l) ↔ ∃ rv mb es, MapOk es row ∧ SatL w (CacheO pb most rv mb es row l) := by
  simp only [CacheR, sat_ex, sat_sep, List.cons_append, List.nil_append, sat_pur]

theorem EntR_open {x : Ent} : SatL w (EntR x :: l) ↔ SatL w (EntC x :: Sl 5 x.dv x.data :: l) := by
  simp only [EntR, sat_sep, List.cons_append, List.nil_append]

/-- where an entry stands in the row -/
theorem find_split {k : Int} {x : Ent} (hn : (row.map (·.b)).Nodup) (h : row.find? (has k) = some x) : x.b = k ∧ ∃ r1 r2, row = r1 ++ x :: r2 ∧ (∀ y ∈ r1, ¬ y.b = k) ∧ (∀ y ∈ r2, ¬ y.b = k) := by
  obtain ⟨h1, r1, r2, rfl, h2⟩ := List.find?_eq_some_iff_append.1 h
  have h1' : x.b = k := by simpa [has] using h1
  refine ⟨h1', r1, r2, rfl, fun y hy => by simpa [has] using h2 y hy, ?_⟩
  intro y hy hyk
  simp only [List.map_append, List.map_cons] at hn
  have := (List.nodup_append.1 hn).2.1
  rw [List.nodup_cons] at this
  exact this.1 (by rw [h1', ← hyk]; exact List.mem_map.2 ⟨y, hy, rfl⟩)

theorem focus {r1 r2 : List Ent} {x : Ent} {rv : Value} {mb : Nat} {es : IM} : SatL w (CacheO pb most rv mb es (r1 ++ x :: r2) l) ↔
    SatL w (EntC x :: Sl 5 x.dv x.data :: CacheC pb most rv mb :: Sl 54 rv ((r1 ++ x :: r2).map eptr) :: MapI mb es :: ER (r1 ++ r2) :: l) := by
  constructor
  · intro h
    have h1 := big_mid.1 (h.pull 3)
    exact EntR_open.1 ((h1.pull 1).perm (by
      refine (List.Perm.swap _ _ _).trans ?_
      refine List.Perm.cons _ ?_
      exact List.perm_middle (l₁ := [CacheC pb most rv mb, Sl 54 rv ((r1 ++ x :: r2).map eptr), MapI mb es]).symm))
  · intro h
    have h1 := EntR_open.2 h
    have h2 := (h1.pull 4).swap
    have h3 := big_mid.2 h2
    exact h3.perm (List.perm_middle (l₁ := [CacheC pb most rv mb, Sl 54 rv ((r1 ++ x :: r2).map eptr), MapI mb es]).symm)

/-- two entries lie in two blocks -/
theorem ER_apart {r1 r2 : List Ent} {x y : Ent} (h : SatL w (ER (r1 ++ x :: r2) :: l)) (hy : y ∈ r1 ++ r2) : ¬ y.eb = x.eb := by
  obtain ⟨a, b, hab⟩ := List.append_of_mem hy
  have h1 := EntR_open.1 (big_mid.1 h)
  rw [hab] at h1
  have h2 := EntR_open.1 (big_mid.1 (h1.pull 2))
  have h3 : SatL w (EntC x :: EntC y :: _) := h2.pull 3
  exact fun e => SatL.ne h3 e.symm
end

theorem key_entry : KeyInt Try.prog 50 54 (.pointer none) :=
  .of (kt := 3) (by kernel_rfl) (by kernel_rfl) (by kernel_rfl)
end Go.Proofs.Ytlmjjfgnpcghgaa
