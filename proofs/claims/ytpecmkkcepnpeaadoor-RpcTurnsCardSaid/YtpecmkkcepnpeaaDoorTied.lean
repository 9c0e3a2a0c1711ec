/- What the row's condition on errors.errorType gives a walk (after the kit's worked proof ToyasProofs). No condition. -/
import Derived.Test.YtpecmkkcepnpeaaDoorRows
import Derived.Test.YtpecmkkcepnpeaaDoorRpcP
import Derived.ChangeSame
import Derived.ChangeVars
import Derived.JoinedOf
import Derived.RowKit
import Derived.RowKitTokens
import Derived.LaidLaws
import Derived.LaidHandle
import Derived.Stop.Joined
namespace Go.Proofs.YtpecmkkcepnpeaaDoor
open Go.ChangeShapes Go.WideShapes Go.RowKit
abbrev laid17 : List (String × DataW Unit) := [("errors.errorType", Rows.laid_errors_errorType)]
theorem et17 : Tryd.prog.globalNamed "errors.errorType" = some 0 := by kernel_rfl
theorem rt17 : (Tryd.prog.cutTypes.find? (·.1 == "internal/reflectlite.rtype")).map (·.2) = some 140 := by kernel_rfl
theorem oneRow17 : ((List.range 196).filter fun t => Tryd.prog.rowNamed t [101, 114, 114, 111, 114]) = [32] := by kernel_rfl
theorem size17 : Tryd.prog.types.size = 196 := by kernel_rfl
theorem handle17 {W : World} (h : laidMetH Tryd.prog laid17 W) : HndW W := by
  have h' : laidMet Tryd.prog [] W ∧ handlesMet Tryd.prog laid17 W := h
  obtain ⟨name, u, ty, e1, e2, e3, e4, e5⟩ := h'.2 _ (List.mem_singleton.2 rfl)
  have en : name = [101, 114, 114, 111, 114] := (Option.some.inj e1).symm
  subst en
  obtain rfl := Option.some.inj (rt17.symm.trans e2)
  have hm : ty ∈ (List.range 196).filter fun t => Tryd.prog.rowNamed t [101, 114, 114, 111, 114] := List.mem_filter.2 ⟨List.mem_range.2 (by rw [← size17]; exact e3), e4⟩
  rw [oneRow17] at hm
  obtain rfl := List.mem_singleton.1 hm
  have hh : typeHandle Tryd.prog 32 = .pointer (some ⟨1, 32, none⟩) := by kernel_rfl
  rw [hh] at e5
  show W.cell? ⟨0, 0, none⟩ = _
  simpa using World.var?_cell et17 e5 0
noncomputable def laidWorld17 (os : Os) : World :=
  let w0 := World.holding Tryd.prog os ⟨#[], #[], []⟩
  { w0 with heap := w0.heap.modify 0 fun
      | .cells _ t frozen => .cells #[.iface 140 (.agg #[.pointer (some ⟨1, 32, none⟩)])] t frozen
      | o => o }
theorem laidWorld17_met (os : Os) (args : Array Value) : laidMetH Tryd.prog laid17 ((laidWorld17 os).forCall (fun _ _ => 0) ⟨#[], args, []⟩).memory :=
  laidMetH_of_parts (laidMet_nil _ _) (by kernel_rfl)
end Go.Proofs.YtpecmkkcepnpeaaDoor
