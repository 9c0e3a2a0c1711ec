/- Bits of a piece's head. No condition. -/
import Derived.Test.YtpecmkkcepnpeaaDoorXdrB
namespace Go.Proofs.YtpecmkkcepnpeaaDoor
set_option linter.unusedVariables false
set_option linter.unusedSimpArgs false
theorem mask31 : ∀ i, i < 31 → (18446744071562067967 : Nat).testBit i = true := by decide
theorem head_andNot (v : Nat) (hv : v < 4294967296) : bits .andNot .u64 (v : Int) 2147483648 = ((v % 2147483648 : Nat) : Int) := by
  have h := u64_andNot_nat v 2147483648 (by omega) (by omega)
  have e : ((2147483648 : Nat) : Int) = 2147483648 := rfl
  rw [e] at h
  rw [h]
  congr 1
  show v &&& 18446744071562067967 = v % 2 ^ 31
  apply Nat.eq_of_testBit_eq
  intro i
  rw [Nat.testBit_and, Nat.testBit_mod_two_pow]
  by_cases h1 : i < 31
  · rw [mask31 i h1]; simp [h1]
  · by_cases h2 : i = 31
    · subst h2
      have : (18446744071562067967 : Nat).testBit 31 = false := by decide
      rw [this]; simp
    · have h3 : v.testBit i = false := Nat.testBit_lt_two_pow (Nat.lt_of_lt_of_le (show v < 2 ^ 32 by omega) (Nat.pow_le_pow_right (by omega) (by omega)))
      rw [h3]; simp
theorem head_and (v : Nat) (hv : v < 4294967296) : bits .and .u64 (v : Int) 2147483648 = ((if 2147483648 ≤ v then 2147483648 else 0 : Nat) : Int) := by
  have h := u64_and_nat v 2147483648 (by omega) (by omega)
  have e : ((2147483648 : Nat) : Int) = 2147483648 := rfl
  rw [e] at h
  rw [h]
  congr 1
  show v &&& 2 ^ 31 = _
  have ht : v.testBit 31 = decide (2147483648 ≤ v) := by
    rw [Nat.testBit_eq_decide_div_mod_eq]
    have : (v / 2 ^ 31 % 2 = 1) ↔ (2147483648 ≤ v) := by omega
    exact decide_eq_decide.2 this
  apply Nat.eq_of_testBit_eq
  intro i
  rw [Nat.testBit_and, Nat.testBit_two_pow]
  by_cases h1 : 2147483648 ≤ v
  · rw [if_pos h1]
    show _ = (2 ^ 31 : Nat).testBit i
    rw [Nat.testBit_two_pow]
    by_cases h2 : 31 = i
    · subst h2; rw [ht]; simp [h1]
    · simp [h2]
  · rw [if_neg h1]
    by_cases h2 : 31 = i
    · subst h2; rw [ht]; simp [h1]
    · simp [h2]
theorem mark_or (n : Nat) (hn : n < 2147483648) : bits .or .u32 2147483648 (n : Int) = ((2147483648 + n : Nat) : Int) := by
  have h := u32_or_nat 2147483648 n (by omega) (by omega)
  have e : ((2147483648 : Nat) : Int) = 2147483648 := rfl
  rw [e] at h
  rw [h]
  congr 1
  have := Nat.two_pow_add_eq_or_of_lt (i := 31) (b := n) (by omega) 1
  rw [Nat.mul_one] at this
  exact this.symm
end Go.Proofs.YtpecmkkcepnpeaaDoor
