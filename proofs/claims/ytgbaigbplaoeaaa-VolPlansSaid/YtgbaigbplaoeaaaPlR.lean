/- Rows of bytes that are owned, each by itself. No condition. -/
import Derived.Test.YtgbaigbplaoeaaaBase
import Derived.Test.YtgbaigbplaoeaaaPlP
import Derived.Test.YtgbaigbplaoeaaaRegE
import Derived.Handy
import Derived.Deep.CutBlock
import Derived.Deep.CutRange
import Derived.Deep.QuietTactic
import Derived.BigQuiet
namespace Go.Proofs.Ytgbaigbplaoeaaa
set_option linter.unusedVariables false
set_option linter.unusedSimpArgs false
open Go.RowKit
structure RwS where
  v : Value
  d : List UInt8
def RowsS (v : Value) (rs : List RwS) : HP := sep [Sl 23 v (rs.map (·.v)), big (fun r : RwS => SlB 5 r.v r.d) rs]
def RowsM (v : Value) (l : List (List UInt8)) : HP := ex fun rs : List RwS => sep [pur (rs.map (·.d) = l), RowsS v rs]
section
variable {w : World} {L : List HP}
theorem sat_RowsS {v : Value} {rs : List RwS} : SatL w (RowsS v rs :: L) ↔ SatL w (Sl 23 v (rs.map (·.v)) :: big (fun r : RwS => SlB 5 r.v r.d) rs :: L) := by
  simp only [RowsS, sat_sep, List.cons_append, List.nil_append]
theorem sat_RowsM {v : Value} {l : List (List UInt8)} : SatL w (RowsM v l :: L) ↔ ∃ rs : List RwS, rs.map (·.d) = l ∧ SatL w (RowsS v rs :: L) := by
  simp only [RowsM, sat_ex, sat_sep, List.cons_append, List.nil_append, sat_pur]
theorem RowsM_nil (h : SatL w L) : SatL w (RowsM (.slice none 0 0) [] :: L) := sat_RowsM.2 ⟨[], rfl, sat_RowsS.2 (Sl_nil (big_nil.2 h))⟩
theorem rowsS_push {v' rv : Value} {rs : List RwS} {d : List UInt8} (h : SatL w (Sl 23 v' (rs.map (·.v) ++ [rv]) :: big (fun r : RwS => SlB 5 r.v r.d) rs :: SlB 5 rv d :: L)) : SatL w (RowsM v' (rs.map (·.d) ++ [d]) :: L) := by
  refine sat_RowsM.2 ⟨rs ++ [⟨rv, d⟩], by simp, sat_RowsS.2 ?_⟩
  have h1 : SatL w (SlB 5 rv d :: Sl 23 v' (rs.map (·.v) ++ [rv]) :: big (fun r : RwS => SlB 5 r.v r.d) rs :: L) := h.pull 2
  have h2 : SatL w (big (fun r : RwS => SlB 5 r.v r.d) [⟨rv, d⟩] :: Sl 23 v' (rs.map (·.v) ++ [rv]) :: big (fun r : RwS => SlB 5 r.v r.d) rs :: L) := big_cons.2 (SatL.swap (big_nil.2 h1))
  have h3 := h2.bring [2, 0]
  have h4 : SatL w (big (fun r : RwS => SlB 5 r.v r.d) (rs ++ [⟨rv, d⟩]) :: Sl 23 v' (rs.map (·.v) ++ [rv]) :: L) := big_append.2 h3
  have h5 := h4.swap
  rw [List.map_append]
  exact h5
/-- one of the rows, and the others -/
theorem rowsS_take {rs : List RwS} {k : Nat} (hk : k < rs.length) (h : SatL w (big (fun r : RwS => SlB 5 r.v r.d) rs :: L)) : SatL w (SlB 5 rs[k].v rs[k].d :: big (fun r : RwS => SlB 5 r.v r.d) (rs.take k ++ rs.drop (k + 1)) :: L) :=
  (big_get (List.getElem?_eq_getElem hk)).1 h
end
end Go.Proofs.Ytgbaigbplaoeaaa
