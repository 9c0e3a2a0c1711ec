/- Fresh: a view of a new volume at time 0. -/
import Derived.Test.YtklnlomleiebaaaFresh
import Derived.Test.YtklnlomleiebaaaMkData
namespace Go.Proofs.Ytklnlomleiebaaa
set_option linter.unusedVariables false
set_option linter.unusedSimpArgs false
open Go.RowKit
section
variable {w : World} {L : List HP}
theorem fresh_ok {b i : Nat} (hg : planGood b i) (he : planErr b i = 0) (h : SatL w L) :
    Calls Try.prog 8 #[.int .i64 b, .int .i64 i] w (Ret fun v w' => ∃ vb mb, v = .pointer (some ⟨vb, 0, none⟩) ∧ SatL w' (ViewR vb mb i (tableN b) (dataN b i) (mkRows b i 0 0) (fun _ => none) :: L)) := by
  have hm := made_ok (sec := 0) (nsec := 0) hg he (by omega) (by omega) h
  have ho := fun (w : World) (mb : Nat) (h : SatL w (BaseR mb (mkRows b i 0 0) (List.replicate b false) :: L)) => over_ok (mb := mb) (i := i) (rows := mkRows b i 0 0) (L := L) (w := w) (by rw [mkRows_len]; exact h) (by rw [mkRows_len]; exact mkRows_0 hg he) (by rw [mkRows_len]; exact hg) (by rw [mkRows_len]; exact he)
  simp only [mkRows_len] at ho
  clear hg he h
  go_enter Try.func8, Try.ntmps8
  go_wp2_with (first
    | (go_at_call 13; (refine hm.mono ?_); rintro e w1 ⟨v, rfl, mb, rfl, hs1⟩; have hq := ho _ _ hs1)
    | (go_at_call 14; (with_reducible refine hq.mono ?_); rintro e w2 ⟨v, rfl, vb, rfl, hs2⟩))
  go_ret
  exact Ret.mk ⟨vb, mb, rfl, hs2⟩
end
end Go.Proofs.Ytklnlomleiebaaa
