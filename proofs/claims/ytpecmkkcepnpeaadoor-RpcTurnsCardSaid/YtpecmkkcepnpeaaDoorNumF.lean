/- Be, Le of the document. -/
import Derived.Test.YtpecmkkcepnpeaaDoorNumE
import Derived.Test.YtpecmkkcepnpeaaDoorNumD
namespace Go.Proofs.YtpecmkkcepnpeaaDoor
set_option linter.unusedVariables false
set_option linter.unusedSimpArgs false
open Go.RowKit

section
variable {w : World}
theorem refsize_yes (n : Nat) (h : sizeOk n) (w : World) : Calls Tryd.prog 71 #[.int .i64 n] w fun e w' => e = .returned (.bool true) ∧ w = w' := by
  rcases h with rfl | rfl | rfl | rfl
  all_goals
    go_enter Tryd.func71, Tryd.ntmps71
    go_wp2
    go_ret
    exact ⟨rfl, rfl⟩

theorem leN_rev_snoc {r : List UInt8} {j : Nat} (hj : j < r.length) : leN (r.take (j + 1)).reverse = (r.getD j 0).toNat + 256 * leN (r.take j).reverse := by
  rw [take_byte hj, List.reverse_append]; rfl

theorem refbe_in {v : Value} {l : List UInt8} {at_ k : Nat} (hk : sizeOk k) (hat : at_ + k ≤ l.length) (h : RdB v l w) :
    Calls Tryd.prog 39 #[v, .int .i64 at_, .int .i64 k] w fun e w' => e = .returned (.tuple #[.int .u64 ((leN ((l.drop at_).take k).reverse : Nat) : Int), .int .i64 0]) ∧ w = w' := by
  have hkb : 1 ≤ k ∧ k ≤ 8 := by rcases hk with rfl | rfl | rfl | rfl <;> omega
  obtain ⟨a, c, rfl, g1, g2⟩ := h.valn
  obtain ⟨_, _, _, b, off, rfl, hcell⟩ := h.at (by omega)
  have hs := refsize_yes k hk w
  have hrl : ((l.drop at_).take k).length = k := by simp; omega
  have hcell' : ∀ i, i < k → w.cell? ⟨b, off + (at_ + i), none⟩ = some (.int .u8 (((((l.drop at_).take k).getD i 0).toNat : Nat) : Int)) := by
    intro i hi
    rw [hcell (at_ + i) (by omega)]
    congr 4
    simp only [List.getD_eq_getElem?_getD, List.getElem?_drop, List.getElem?_take]
    rw [if_pos hi]
  generalize (l.drop at_).take k = r at *
  have q1 : ¬ ((at_ : Int) > l.length) := by omega
  have q2 : ¬ ((l.length : Int) - at_ < k) := by omega
  clear hk hcell h
  go_enter Tryd.func39, Tryd.ntmps39
  go_wp2_with (go_at_call 71; (with_reducible refine hs.mono ?_); rintro e w' ⟨rfl, rfl⟩)
  clear hs
  go_loop [8, 9] (fun x i => ∃ j : Nat, j ≤ k ∧ i = .int .i64 j ∧ x = .int .u64 ((leN (r.take j).reverse : Nat) : Int)) (fun _ i => k - (intOf i).toNat)
  case atStart => exact ⟨0, by omega, rfl, rfl⟩
  case round =>
    obtain ⟨j, hj, rfl, rfl⟩ := hrel
    by_cases hlt : j < k
    · have hc := hcell' j hlt
      have e1 := leN_rev_snoc (r := r) (j := j) (by omega)
      have e2 := leN_lt (r.take j).reverse
      have e3 : 256 ^ (r.take j).reverse.length ≤ 256 ^ 7 := Nat.pow_le_pow_right (by omega) (by simp; omega)
      have e4 : (256 : Nat) ^ 7 = 72057594037927936 := by decide
      have e5 : leN (r.take j).reverse < 72057594037927936 := by omega
      have e6 := u8_lt (r.getD j 0)
      generalize leN (r.take j).reverse = y at *
      generalize (r.getD j 0).toNat = z at *
      have E1 := hid e1
      clear e1 e2 e3 e4 hcell'
      go_wp2
      go_round
      case rel => exact ⟨j + 1, by omega, by go_num, by rw [or_u64 y z e5 e6, E1.out]⟩
      case measure => simp [intOf]; omega
    · obtain rfl : j = k := by omega
      rw [List.take_of_length_le (by omega)]
      go_wp2
      go_ret2
      exact ⟨rfl, rfl⟩

theorem leN_mod (b : UInt8) (l : List UInt8) : leN (b :: l) % 256 = b.toNat ∧ leN (b :: l) / 256 = leN l := by
  have := u8_lt b
  rw [show leN (b :: l) = b.toNat + 256 * leN l from rfl]; omega
theorem and255_u64 (y : Nat) (hy : y < 18446744073709551616) : bits .and .u64 (y : Int) 255 = ((y % 256 : Nat) : Int) := by
  rw [u64_and _ _ (by omega) (by omega) (by omega) (by omega)]
  have : ((y : Int).toNat &&& (255 : Int).toNat) = y % 256 := by
    show y &&& 255 = y % 256
    exact Nat.and_two_pow_sub_one_eq_mod y 8
  rw [this]

end
end Go.Proofs.YtpecmkkcepnpeaaDoor
