/- sameBufs of chapter 3's statements, at rows that are alike. No condition. -/
import Derived.Test.YtnniipeoahpkcaaVqF
import Derived.Deep.QuietTactic
import Derived.BigQuiet
namespace Go.Proofs.Ytnniipeoahpkcaa
set_option linter.unusedVariables false
set_option linter.unusedSimpArgs false
open Go.RowKit
section
variable {w : World} {L : List HP}
set_option maxRecDepth 100000 in
set_option maxHeartbeats 1000000 in
theorem samebufs_ok {a b : Option Addr} {c d : Nat} {l : List Bf} (h : SatL w L) (ga : Gives L (BRow a l)) (gb : Gives L (BRow b l)) :
    Calls Try.prog 33 #[.slice a l.length c, .slice b l.length d] w (Ret fun r w' => r = .bool true ∧ SatL w' L) := by
  have hnz : l.length ≤ 9223372036854775807 := (ga w h).1
  have Ga := hid ga
  have Gb := hid gb
  clear ga gb
  go_enter Try.func33, Try.ntmps33
  go_wp2
  go_loopw [5] (fun i wr => ∃ j : Nat, j ≤ l.length ∧ i = .int .i64 j ∧ SatL wr L) (fun i _ => l.length - (intOf i).toNat)
  case atStart => exact ⟨0, by omega, rfl, h⟩
  case round =>
    clear h
    obtain ⟨j, hj, rfl, hs⟩ := hrel
    by_cases hlt : j < l.length
    · have hjz : (j : Int) < (l.length : Int) := by omega
      obtain ⟨pa, oa, rfl, xa⟩ := (Ga.out wr hs).2 (by omega)
      obtain ⟨pb, ob, rfl, xb⟩ := (Gb.out wr hs).2 (by omega)
      have hx : l[j]? = some l[j] := List.getElem?_eq_getElem hlt
      obtain ⟨ca0, ca1, ca2⟩ := xa j _ hx
      obtain ⟨cb0, cb1, cb2⟩ := xb j _ hx
      clear xa xb hx
      generalize l[j] = z at *
      generalize z.addr = z0 at *
      generalize z.len = z1 at *
      generalize z.wr = z2 at *
      go_wp2
      go_quiet (fail)
      go_wp2
      go_roundw
      case rel => exact ⟨j + 1, by omega, by go_num, (Iff.rfl : SatL (wr.drewN nq) L ↔ SatL wr L).2 hs⟩
      case measure => simp [intOf]; omega
    · obtain rfl : j = l.length := by omega
      go_wp2
      go_ret
      exact Ret.mk ⟨rfl, hs⟩
end
end Go.Proofs.Ytnniipeoahpkcaa
