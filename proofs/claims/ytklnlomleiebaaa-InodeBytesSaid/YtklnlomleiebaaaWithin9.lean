/- within: a number from 0 to n - 1. -/
import Derived.Test.YtklnlomleiebaaaChecked
import Derived.Test.YtklnlomleiebaaaSlice
namespace Go.Proofs.Ytklnlomleiebaaa
set_option linter.unusedVariables false
set_option linter.unusedSimpArgs false
open Go.RowKit
def withinI (a n : Int) : Int := if a.tmod n < 0 then a.tmod n + n else a.tmod n
theorem within_bd (a n : Int) (hn : 0 < n) : 0 ≤ withinI a n ∧ withinI a n < n := by
  unfold withinI
  have h1 := Int.tmod_lt_of_pos a hn
  have h2 : -n < a.tmod n := by
    have := Int.lt_tmod_of_pos a hn
    omega
  split <;> omega
theorem within_ok (a n : Int) (hn : 0 < n ∧ n ≤ 4294967296) (w : World) : Calls Try.prog 9 #[.int .i64 a, .int .i64 n] w fun e w' => e = .returned (.int .i64 (withinI a n)) ∧ w = w' := by
  have h1 := Int.tmod_lt_of_pos a hn.1
  have h2 : -n < a.tmod n := by
    have := Int.lt_tmod_of_pos a hn.1
    omega
  have hz : (n == 0) = false := by simp; omega
  by_cases hneg : a.tmod n < 0
  · have Hq := hid (show withinI a n = a.tmod n + n by simp [withinI, hneg])
    go_enter Try.func9, Try.ntmps9
    go_wp2
    go_ret
    exact ⟨by rw [Hq.out]; rfl, rfl⟩
  · have Hq := hid (show withinI a n = a.tmod n by simp [withinI, hneg])
    go_enter Try.func9, Try.ntmps9
    go_wp2
    go_ret
    exact ⟨by rw [Hq.out]; rfl, rfl⟩
/-- within, the number as a natural one -/
theorem within_nat (a n : Int) (hn : 0 < n ∧ n ≤ 4294967296) : ∃ k : Nat, (k : Int) < n ∧ ∀ w : World, Calls Try.prog 9 #[.int .i64 a, .int .i64 n] w fun e w' => e = .returned (.int .i64 (k : Int)) ∧ w = w' := by
  have hb := within_bd a n hn.1
  refine ⟨(withinI a n).toNat, by omega, fun w => ?_⟩
  rw [Int.toNat_of_nonneg hb.1]
  exact within_ok a n hn w
end Go.Proofs.Ytklnlomleiebaaa
