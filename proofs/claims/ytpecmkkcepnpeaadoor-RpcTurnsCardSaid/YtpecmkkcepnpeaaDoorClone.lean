/- slices.Clone of bytes that can be read. No condition beside the size. -/
import Derived.Test.YtpecmkkcepnpeaaDoorNumH
import Derived.Lib.SlBytesConst
import Derived.Lib.SliceRun
namespace Go.Proofs.YtpecmkkcepnpeaaDoor
set_option linter.unusedVariables false
set_option linter.unusedSimpArgs false
open Go.RowKit

section
variable {w : World} {L : List HP}
theorem clone_rd {v : Value} {xs : List UInt8} (h : SatL w L) (g : Gives L (RdB v xs)) (hb : xs.length ≤ 1000000000) :
    Calls Tryd.prog 65 #[v] w (Ret fun v' w' => SatL w' (SlB 5 v' xs :: L)) := by
  have hnil := fun (w : World) => Lib.run_eql_slice_nil (P := Tryd.prog) w 27 5 none 0 0 0 0 Tryd.underlying27
  rcases g w h with ⟨rfl, rfl⟩ | ⟨b, off, cap, rfl, h2, h3, _⟩
  · go_enter Tryd.func65, Tryd.ntmps65
    go_wp2
    go_ret
    exact Ret.mk (Sl_nil h)
  · have hnn := fun (w : World) => Lib.run_eql_slice_nil (P := Tryd.prog) w 27 5 (some ⟨b, off, none⟩) xs.length cap 0 0 Tryd.underlying27
    have h4 : SatL (w.alloc (.cells #[] 5)) (SlK 5 1 (.slice (some ⟨w.heap.size, 0, none⟩) 0 0) 0 [] :: L) :=
      sat_SlK.2 (.inr ⟨w.heap.size, 0, 0, #[], ⟨rfl, Nat.le_refl _, by decide, rfl, by simp, rfl⟩, h.alloc _⟩)
    have h5 := SrcOk.ofRdB (g _ h4.tail)
    have h6 : (0 + xs.length) * 1 ≤ 140737488355328 := by omega
    have h7 : 0 + xs.length ≤ maxLen := by unfold maxLen; omega
    go_enter Tryd.func65, Tryd.ntmps65
    go_wp2_with (refine wpList_append_sl rfl (.tmp 5) (.tmp 6) rfl elem_byte rfl h4 rfl h5 (bvs_one xs) h6 h7 ?_; intro v' w' h8 _)
    go_ret
    have h9 := Sl.ofK h8
    exact Ret.mk (by simpa using h9)
end
end Go.Proofs.YtpecmkkcepnpeaaDoor
