/- Be, Le of the document. -/
import Derived.Test.YtgbaigbplaoeaaaNumE
import Derived.Test.YtgbaigbplaoeaaaNumD
namespace Go.Proofs.Ytgbaigbplaoeaaa
set_option linter.unusedVariables false
set_option linter.unusedSimpArgs false
open Go.RowKit

section
variable {w : World}
theorem refsize_yes (n : Nat) (h : sizeOk n) (w : World) : Calls Try.prog 70 #[.int .i64 n] w fun e w' => e = .returned (.bool true) ∧ w = w' := by
  rcases h with rfl | rfl | rfl | rfl
  all_goals
    go_enter Try.func70, Try.ntmps70
    go_wp2
    go_ret
    exact ⟨rfl, rfl⟩

theorem leN_rev_snoc {r : List UInt8} {j : Nat} (hj : j < r.length) : leN (r.take (j + 1)).reverse = (r.getD j 0).toNat + 256 * leN (r.take j).reverse := by
  rw [take_byte hj, List.reverse_append]; rfl

theorem refbe_in {v : Value} {l : List UInt8} {at_ k : Nat} (hk : sizeOk k) (hat : at_ + k ≤ l.length) (h : RdB v l w) :
    Calls Try.prog 62 #[v, .int .i64 at_, .int .i64 k] w fun e w' => e = .returned (.tuple #[.int .u64 ((leN ((l.drop at_).take k).reverse : Nat) : Int), .int .i64 0]) ∧ w = w' := by
  have hkb : 1 ≤ k ∧ k ≤ 8 := by rcases hk with rfl | rfl | rfl | rfl <;> omega
  obtain ⟨a, c, rfl, g1, g2⟩ := h.valn
  obtain ⟨_, _, _, b, off, rfl, hcell⟩ := h.at (by omega)
  have hs := refsize_yes k hk w
  have hrl : ((l.drop at_).take k).length = k := by simp; omega
  have hcell' : ∀ i, i < k → w.cell? ⟨b, off + (at_ + i), none⟩ = some (.int .u8 (((((l.drop at_).take k).getD i 0).toNat : Nat) : Int)) := by
    intro i hi
    rw [hcell (at_ + i) (by omega)]
    congr 4
    simp only [List.getD_eq_getElem?_getD, List.getElem?_drop, List.getElem?_take]
    rw [if_pos hi]
  generalize (l.drop at_).take k = r at *
  have q1 : ¬ ((at_ : Int) > l.length) := by omega
  have q2 : ¬ ((l.length : Int) - at_ < k) := by omega
  clear hk hcell h
  go_enter Try.func62, Try.ntmps62
  go_wp2_with (go_at_call 70; (with_reducible refine hs.mono ?_); rintro e w' ⟨rfl, rfl⟩)
  clear hs
  go_loop [8, 9] (fun x i => ∃ j : Nat, j ≤ k ∧ i = .int .i64 j ∧ x = .int .u64 ((leN (r.take j).reverse : Nat) : Int)) (fun _ i => k - (intOf i).toNat)
  case atStart => exact ⟨0, by omega, rfl, rfl⟩
  case round =>
    obtain ⟨j, hj, rfl, rfl⟩ := hrel
    by_cases hlt : j < k
    · have hc := hcell' j hlt
      have e1 := leN_rev_snoc (r := r) (j := j) (by omega)
      have e2 := leN_lt (r.take j).reverse
      have e3 : 256 ^ (r.take j).reverse.length ≤ 256 ^ 7 := Nat.pow_le_pow_right (by omega) (by simp; omega)
      have e4 : (256 : Nat) ^ 7 = 72057594037927936 := by decide
      have e5 : leN (r.take j).reverse < 72057594037927936 := by omega
      have e6 := u8_lt (r.getD j 0)
      generalize leN (r.take j).reverse = y at *
      generalize (r.getD j 0).toNat = z at *
      have E1 := hid e1
      clear e1 e2 e3 e4 hcell'
      go_wp2
      go_round
      case rel => exact ⟨j + 1, by omega, by go_num, by rw [or_u64 y z e5 e6, E1.out]⟩
      case measure => simp [intOf]; omega
    · obtain rfl : j = k := by omega
      rw [List.take_of_length_le (by omega)]
      go_wp2
      go_ret2
      exact ⟨rfl, rfl⟩

theorem leN_mod (b : UInt8) (l : List UInt8) : leN (b :: l) % 256 = b.toNat ∧ leN (b :: l) / 256 = leN l := by
  have := u8_lt b
  rw [show leN (b :: l) = b.toNat + 256 * leN l from rfl]; omega
theorem and255_u64 (y : Nat) (hy : y < 18446744073709551616) : bits .and .u64 (y : Int) 255 = ((y % 256 : Nat) : Int) := by
  rw [u64_and _ _ (by omega) (by omega) (by omega) (by omega)]
  have : ((y : Int).toNat &&& (255 : Int).toNat) = y % 256 := by
    show y &&& 255 = y % 256
    exact Nat.and_two_pow_sub_one_eq_mod y 8
  rw [this]

theorem refle_in {v : Value} {l : List UInt8} {at_ k : Nat} (hk : sizeOk k) (hat : at_ + k ≤ l.length) (h : RdB v l w) :
    Calls Try.prog 40 #[v, .int .i64 at_, .int .i64 k] w fun e w' => e = .returned (.tuple #[.int .u64 ((leN ((l.drop at_).take k) : Nat) : Int), .int .i64 0]) ∧ w = w' := by
  have hkb : 1 ≤ k ∧ k ≤ 8 := by rcases hk with rfl | rfl | rfl | rfl <;> omega
  have hbe := refbe_in hk hat h
  have hrl : ((l.drop at_).take k).length = k := by simp; omega
  obtain ⟨a, c, rfl, g1, g2⟩ := h.valn
  generalize (l.drop at_).take k = r at *
  clear hk h hat
  go_enter Try.func40, Try.ntmps40
  go_wp2_with (go_at_call 62; (with_reducible refine hbe.mono ?_); rintro e w' ⟨rfl, rfl⟩)
  clear hbe
  go_loop [8, 10, 11] (fun v u i => ∃ j : Nat, j ≤ k ∧ i = .int .i64 j ∧ v = .int .u64 ((leN (r.reverse.drop j) : Nat) : Int) ∧ u = .int .u64 ((leN (r.reverse.take j).reverse : Nat) : Int)) (fun _ _ i => k - (intOf i).toNat)
  case atStart => exact ⟨0, by omega, rfl, rfl, rfl⟩
  case round =>
    obtain ⟨j, hj, rfl, rfl, rfl⟩ := hrel
    have hrr : r.reverse.length = k := by simp [hrl]
    by_cases hlt : j < k
    · have e1 := leN_rev_snoc (r := r.reverse) (j := j) (by omega)
      have e2 := leN_lt (r.reverse.take j).reverse
      have e3 : 256 ^ (r.reverse.take j).reverse.length ≤ 256 ^ 7 := Nat.pow_le_pow_right (by omega) (by simp; omega)
      have e4 : (256 : Nat) ^ 7 = 72057594037927936 := by decide
      have e5 : leN (r.reverse.take j).reverse < 72057594037927936 := by omega
      have e6 := u8_lt (r.reverse.getD j 0)
      have f1 := leN_lt (r.reverse.drop j)
      have f2 : 256 ^ (r.reverse.drop j).length ≤ 256 ^ 8 := Nat.pow_le_pow_right (by omega) (by simp; omega)
      have f3 : (256 : Nat) ^ 8 = 18446744073709551616 := by decide
      have f4 : leN (r.reverse.drop j) < 18446744073709551616 := by omega
      have f5 : r.reverse.drop j = r.reverse.getD j 0 :: r.reverse.drop (j + 1) := by
        rw [List.drop_eq_getElem_cons (by omega)]; simp [List.getD, hrr, hlt]
      obtain ⟨f6, f7⟩ := leN_mod (r.reverse.getD j 0) (r.reverse.drop (j + 1))
      rw [← f5] at f6 f7
      have F7 := hid f7
      generalize leN (r.reverse.take j).reverse = y at *
      generalize leN (r.reverse.drop j) = x at *
      generalize (r.reverse.getD j 0).toNat = z at *
      have E1 := hid e1
      have hand := and255_u64 x f4
      rw [f6] at hand
      clear e1 e2 e3 e4 f1 f2 f3 f5 f6 f7
      go_wp2
      go_round
      case rel => exact ⟨j + 1, by omega, by go_num, by rw [← F7.out]; rfl, by rw [or_u64 y z e5 e6, E1.out]⟩
      case measure => simp [intOf]; omega
    · obtain rfl : j = k := by omega
      rw [List.take_of_length_le (by omega), List.reverse_reverse]
      go_wp2
      go_ret2
      exact ⟨rfl, rfl⟩
end
end Go.Proofs.Ytgbaigbplaoeaaa
