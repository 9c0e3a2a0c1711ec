/- High of the document. No condition beside the sizes. -/
import Derived.Test.YtpecmkkcepnpeaaDoorRxA
namespace Go.Proofs.YtpecmkkcepnpeaaDoor
set_option linter.unusedVariables false
set_option linter.unusedSimpArgs false
open Go.RowKit
section
variable {w : World} {L : List HP}
set_option maxRecDepth 100000 in
set_option maxHeartbeats 400000 in
theorem high_ok {v : Value} {bs : List UInt8} {k x : Nat} (hk : k ≤ 8) (hx : x < 18446744073709551616) (hb : bs.length ≤ 1000000000) (h : SatL w (SlB 5 v bs :: L)) :
    Calls Tryd.prog 81 #[v, .int .i64 k, .int .u64 x] w (Ret fun v' w' => SatL w' (SlB 5 v' (bs ++ hib k x) :: L)) := by
  obtain ⟨a, c, rfl, g1, g2⟩ := SlB.valn h
  have hwk : IntKind.i64.wrap ((k : Int) - 1) = (k : Int) - 1 := IntWalk.i64_in _ (by omega)
  go_enter Tryd.func81, Tryd.ntmps81
  go_wp2
  go_loopw [0, 7] (fun out i wr => ∃ (j : Nat) (q : Int), j ≤ k ∧ q = (j : Int) - 1 ∧ i = .int .i64 q ∧ SatL wr (SlB 5 out (bs ++ ((lowb k x).drop j).reverse) :: L)) (fun _ i _ => (intOf i + 1).toNat)
  case atStart => exact ⟨k, _, by omega, rfl, rfl, by rw [List.drop_of_length_le (by rw [lowb_len]; omega)]; simpa using h⟩
  case round =>
    obtain ⟨j, q, hj, hq, rfl, hs⟩ := hrel
    cases j with
    | succ m =>
      obtain rfl : q = (m : Int) := by omega
      have hl : (((lowb k x).drop (m + 1)).reverse).length ≤ 8 := by rw [List.length_reverse, List.length_drop, lowb_len]; omega
      have hsn := hid (hib_part (k := k) (v := x) (m := m) (by omega))
      generalize ((lowb k x).drop (m + 1)).reverse = R at *
      have b1 : ((bvs (bs ++ R)).length + 1) * 1 ≤ 140737488355328 := by simp; omega
      have b8 : 0 < 1 := by omega
      have e1 := shr_at x m (by omega)
      clear hl hq h hwk
      go_wp2_with (at_builtin; refine wpList_push_sl rfl (.tmp 14) (.tmp 20) rfl elem_byte b8 rfl hs rfl rfl b1 ?_; intro v' w6 h6)
      go_roundw
      case rel =>
        rw [low_byte] at h6
        refine ⟨m, (m : Int) - 1, by omega, rfl, by go_num, ?_⟩
        rw [hsn.out, ← List.append_assoc]
        exact SlB.snoc h6
      case measure => simp [intOf]
    | zero =>
      obtain rfl : q = -1 := by omega
      clear hq h
      go_wp2_with fail
      go_ret
      exact Ret.mk (by simpa [hib] using hs)
end
end Go.Proofs.YtpecmkkcepnpeaaDoor
