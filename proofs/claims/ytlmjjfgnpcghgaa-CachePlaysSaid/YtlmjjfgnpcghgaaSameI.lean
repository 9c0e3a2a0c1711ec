/- sameInts of a chapter's statements, at rows that are alike. No condition. -/
import Derived.Test.YtlmjjfgnpcghgaaRd
import Derived.Test.YtlmjjfgnpcghgaaArg
import Derived.Deep.QuietTactic
import Derived.BigQuiet
namespace Go.Proofs.Ytlmjjfgnpcghgaa
set_option linter.unusedVariables false
set_option linter.unusedSimpArgs false
open Go.RowKit
/-- these numbers can be read -/
def ZRow (a : Option Addr) (l : List Int) (w : World) : Prop :=
  l.length ≤ 9223372036854775807 ∧ (0 < l.length → ∃ b o, a = some ⟨b, o, none⟩ ∧ ∀ i x, l[i]? = some x → w.cell? ⟨b, o + i, none⟩ = some (.int .i64 x))
theorem Sl.zrow {w : World} {L : List HP} {T n c : Nat} {a : Option Addr} {l : List Int} (h : SatL w (Sl T (.slice a n c) (l.map (Value.int .i64)) :: L)) : n = l.length ∧ ZRow a l w := by
  obtain ⟨h1, h2, h3⟩ := Sl.lenEq h
  rw [List.length_map] at h1
  subst h1
  unfold maxLen at h3
  refine ⟨rfl, by omega, fun h0 => ?_⟩
  obtain ⟨b, o, rfl⟩ := Sl.addr h h0
  exact ⟨b, o, rfl, fun i x hx => Sl.cell h (by rw [List.getElem?_map, hx]; rfl)⟩
theorem Sl.gives_z {L : List HP} {T n c : Nat} {a : Option Addr} {l : List Int} : Gives (Sl T (.slice a n c) (l.map (Value.int .i64)) :: L) (ZRow a l) := fun w h => (Sl.zrow h).2
theorem Gives.nx {L : List HP} {X : HP} {F : World → Prop} (g : Gives L F) : Gives (X :: L) F := fun w h => g w (SatL.tail h)
section
variable {w : World} {L : List HP}
set_option maxRecDepth 100000 in
set_option maxHeartbeats 1000000 in
theorem sameints_z {a b : Option Addr} {c d : Nat} {l : List Int} (h : SatL w L) (ga : Gives L (ZRow a l)) (gb : Gives L (ZRow b l)) :
    Calls Try.prog 20 #[.slice a l.length c, .slice b l.length d] w (Ret fun r w' => r = .bool true ∧ SatL w' L) := by
  have hnz : l.length ≤ 9223372036854775807 := (ga w h).1
  have Ga := hid ga
  have Gb := hid gb
  clear ga gb
  go_enter Try.func20, Try.ntmps20
  go_wp2
  go_loopw [5] (fun i wr => ∃ j : Nat, j ≤ l.length ∧ i = .int .i64 j ∧ SatL wr L) (fun i _ => l.length - (intOf i).toNat)
  case atStart => exact ⟨0, by omega, rfl, h⟩
  case round =>
    clear h
    obtain ⟨j, hj, rfl, hs⟩ := hrel
    by_cases hlt : j < l.length
    · have hjz : (j : Int) < (l.length : Int) := by omega
      obtain ⟨pa, oa, rfl, xa⟩ := (Ga.out wr hs).2 (by omega)
      obtain ⟨pb, ob, rfl, xb⟩ := (Gb.out wr hs).2 (by omega)
      have hx : l[j]? = some l[j] := List.getElem?_eq_getElem hlt
      have ca := xa j _ hx
      have cb := xb j _ hx
      clear xa xb hx
      generalize l[j] = z at *
      go_wp2
      go_quiet (fail)
      go_wp2
      go_roundw
      case rel => exact ⟨j + 1, by omega, by go_num, (Iff.rfl : SatL (wr.drewN nq) L ↔ SatL wr L).2 hs⟩
      case measure => simp [intOf]; omega
    · obtain rfl : j = l.length := by omega
      go_wp2
      go_ret
      exact Ret.mk ⟨rfl, hs⟩
end
end Go.Proofs.Ytlmjjfgnpcghgaa
