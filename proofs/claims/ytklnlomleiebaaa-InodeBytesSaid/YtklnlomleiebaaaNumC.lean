/- fits, PutLe of the program. -/
import Derived.Test.YtklnlomleiebaaaNumB
namespace Go.Proofs.Ytklnlomleiebaaa
set_option linter.unusedVariables false
set_option linter.unusedSimpArgs false
open Go.RowKit

def fitsIn (k : Nat) (us : List Nat) : Prop := ∀ i, i < us.length → us.getD i 0 < 256 ^ k
section
variable {w : World} {L : List HP}

set_option maxHeartbeats 1000000 in
theorem fits_yes {v : Value} {us : List Nat} {k : Nat} (hk : sizeOk k) (hf : fitsIn k us) (h : RdU v us w) :
    Calls Try.prog 44 #[.int .i64 k, v] w fun e w' => e = .returned (.bool true) ∧ w = w' := by
  have hs := size_yes k hk w
  obtain ⟨a, c, rfl, g1, g2⟩ := h.valn
  rcases hk with rfl | rfl | rfl | rfl
  all_goals
    push_cast at hs ⊢
    go_enter Try.func44, Try.ntmps44
    go_wp2_with (go_at_call 49; (with_reducible refine hs.mono ?_); rintro e w' ⟨rfl, rfl⟩)
    go_loop [12] (fun i => ∃ j : Nat, j ≤ us.length ∧ i = .int .i64 j) (fun i => us.length - (intOf i).toNat)
    case atStart => exact ⟨0, by omega, rfl⟩
    case round =>
      obtain ⟨j, hj, rfl⟩ := hrel
      by_cases hlt : j < us.length
      · obtain ⟨_, _, _, b, off, rfl, hcell⟩ := h.at (by omega)
        have hc := hcell j hlt
        have hz := hf j hlt
        simp only [Nat.reducePow] at hz
        generalize us.getD j 0 = u at *
        have hu : (0 : Int) ≤ u := by omega
        have q1 : (u : Int) / 256 = 0 ∨ True := .inr trivial
        clear hcell hf h q1
        first
          | (have q : (u : Int) / 256 = 0 := by omega
             go_wp2; go_round; case rel => exact ⟨j + 1, by omega, by go_num⟩
             case measure => simp [intOf]; omega)
          | (have q : (u : Int) / 65536 = 0 := by omega
             go_wp2; go_round; case rel => exact ⟨j + 1, by omega, by go_num⟩
             case measure => simp [intOf]; omega)
          | (have q : (u : Int) / 4294967296 = 0 := by omega
             go_wp2; go_round; case rel => exact ⟨j + 1, by omega, by go_num⟩
             case measure => simp [intOf]; omega)
          | (go_wp2; go_round; case rel => exact ⟨j + 1, by omega, by go_num⟩
             case measure => simp [intOf]; omega)
      · go_wp2
        go_ret
        exact ⟨rfl, rfl⟩
end
end Go.Proofs.Ytklnlomleiebaaa
