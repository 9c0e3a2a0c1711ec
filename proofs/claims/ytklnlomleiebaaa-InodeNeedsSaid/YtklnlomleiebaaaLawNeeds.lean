/- InodeNeeds: for every input it returns true and writes nothing that was there. No condition. -/
import Derived.Test.YtklnlomleiebaaaKnown10
namespace Go.Proofs.Ytklnlomleiebaaa
set_option linter.unusedVariables false
set_option linter.unusedSimpArgs false
open Go.RowKit
def needI (a n : Int) : Int := if n ≤ 0 then 0 else (a % 512 + n - 1) / 512 + 1 + 7
theorem needI_eq {a n : Int} (ha : 0 ≤ a) (hn : 0 < n) : (a % 512 + n - 1) / 512 + 1 + 7 = (a + (n - 1)) / 512 - a / 512 + 8 := by omega
theorem need_ok {a n : Int} (ha : 0 ≤ a ∧ a ≤ 4611686018427387904) (hn : -9223372036854775808 ≤ n ∧ n ≤ 1152921504606846976) (w : World) :
    Calls Try.prog 6 #[.int .u64 a, .int .i64 n] w fun e w' => e = .returned (.int .i64 (needI a n)) ∧ w = w' := by
  by_cases h0 : n ≤ 0
  · have Hq := hid (show needI a n = 0 by unfold needI; rw [if_pos h0])
    go_enter Try.func6, Try.ntmps6
    go_wp2
    go_ret
    rw [Hq.out]
    exact ⟨rfl, rfl⟩
  · have Hq := hid (show needI a n = (a % 512 + n - 1) / 512 + 1 + 7 by unfold needI; rw [if_neg h0])
    obtain ⟨r, hr⟩ : ∃ r : Int, a % 512 = r := ⟨_, rfl⟩
    have hr2 : 0 ≤ r ∧ r < 512 := by omega
    obtain ⟨q, hq⟩ : ∃ q : Int, (r + n - 1) / 512 = q := ⟨_, rfl⟩
    have hq2 : 0 ≤ q ∧ q ≤ 1152921504606846976 := by omega
    have hp : 0 ≤ r + n - 1 := by omega
    have e1 : (r + n - 1).tdiv 512 = q := by rw [Int.tdiv_eq_ediv_of_nonneg hp]; exact hq
    have ew : IntKind.i64.wrap r = r := IntWalk.i64_in _ (by omega)
    rw [hr, hq] at Hq
    go_enter Try.func6, Try.ntmps6
    go_wp2
    go_ret
    rw [Hq.out]
    exact ⟨rfl, rfl⟩
theorem refneed_ok {a n : Int} (ha : 0 ≤ a ∧ a ≤ 4611686018427387904) (hn : -9223372036854775808 ≤ n ∧ n ≤ 1152921504606846976) (w : World) :
    Calls Try.prog 7 #[.int .u64 a, .int .i64 n] w fun e w' => e = .returned (.int .i64 (needI a n)) ∧ w = w' := by
  by_cases h0 : n ≤ 0
  · have Hq := hid (show needI a n = 0 by unfold needI; rw [if_pos h0])
    go_enter Try.func7, Try.ntmps7
    go_wp2
    go_ret
    rw [Hq.out]
    exact ⟨rfl, rfl⟩
  · have Hq := hid (show needI a n = (a + (n - 1)) / 512 - a / 512 + 8 by unfold needI; rw [if_neg h0, needI_eq ha.1 (by omega)])
    obtain ⟨m, hm⟩ : ∃ m : Int, n - 1 = m := ⟨_, rfl⟩
    rw [hm] at Hq
    have hm2 : 0 ≤ m ∧ m < 1152921504606846976 := by omega
    have ew1 : IntKind.u64.wrap m = m := by rw [IntKind.wrap_u64]; omega
    have ew2 : IntKind.u64.wrap (a + m) = a + m := by rw [IntKind.wrap_u64]; omega
    obtain ⟨x, hx⟩ : ∃ x : Int, (a + m) / 512 = x := ⟨_, rfl⟩
    obtain ⟨y, hy⟩ : ∃ y : Int, a / 512 = y := ⟨_, rfl⟩
    have hxy : 0 ≤ x - y ∧ x - y < 1152921504606846976 := by omega
    have ew3 : IntKind.u64.wrap (x - y) = x - y := by rw [IntKind.wrap_u64]; omega
    have ew4 : IntKind.i64.wrap (x - y) = x - y := IntWalk.i64_in _ (by omega)
    rw [hx, hy] at Hq
    go_enter Try.func7, Try.ntmps7
    go_wp2
    go_ret
    rw [Hq.out]
    exact ⟨rfl, rfl⟩
theorem needs_walk {a n : Int} (ha : 0 ≤ a ∧ a < 18446744073709551616) (hn : -9223372036854775808 ≤ n ∧ n < 9223372036854775808) (w : World) :
    Calls Try.prog 3 #[.int .u64 a, .int .i64 n] w (Ret fun v w' => v = .bool true ∧ SatL w' [old w]) := by
  have hk := known_ok (sat_old w)
  by_cases hb : 4611686018427387904 < a
  · go_enter Try.func3, Try.ntmps3
    go_wp2_with (go_at_call 5; (with_reducible refine hk.mono ?_); rintro e w1 ⟨v, rfl, rfl, h1⟩)
    go_ret
    exact Ret.mk ⟨rfl, h1⟩
  by_cases hc : 1152921504606846976 < n
  · go_enter Try.func3, Try.ntmps3
    go_wp2_with (go_at_call 5; (with_reducible refine hk.mono ?_); rintro e w1 ⟨v, rfl, rfl, h1⟩)
    go_ret
    exact Ret.mk ⟨rfl, h1⟩
  · have n1 := fun w => need_ok (a := a) (n := n) (by omega) (by omega) w
    have n2 := fun w => refneed_ok (a := a) (n := n) (by omega) (by omega) w
    generalize needI a n = z at *
    go_enter Try.func3, Try.ntmps3
    go_wp2_with (first
      | (go_at_call 5; (with_reducible refine hk.mono ?_); rintro e w1 ⟨v, rfl, rfl, h1⟩)
      | (go_at_call 6; (with_reducible refine (n1 _).mono ?_); rintro e w2 ⟨rfl, rfl⟩)
      | (go_at_call 7; (with_reducible refine (n2 _).mono ?_); rintro e w3 ⟨rfl, rfl⟩))
    go_ret
    exact Ret.mk ⟨rfl, h1⟩
end Go.Proofs.Ytklnlomleiebaaa
