/- Plans of volumes, plain: has a block of bits a byte that is not nought? No condition. -/
import Derived.Test.YtgbaigbplaoeaaaMkB
namespace Go.Proofs.Ytgbaigbplaoeaaa
set_option linter.unusedVariables false
set_option linter.unusedSimpArgs false
open Go.RowKit
theorem bsum_zero (n : Nat) (f : Nat → Bool) : bsum n f = 0 ↔ ∀ t, t < n → f t = false := by
  constructor
  · intro h t ht
    have := bsum_bit n f t
    rw [h] at this
    simp [ht] at this
    exact this
  · intro h
    apply Nat.eq_of_testBit_eq
    intro i
    rw [bsum_bit]
    by_cases hi : i < n
    · simp [h i hi]
    · simp [hi]
theorem bitByte_ne (P : Nat → Bool) (q : Nat) : bitByte P q ≠ 0 ↔ ∃ t, t < 8 ∧ P (8 * q + t) = true := by
  have e : bitByte P q = 0 ↔ bsum 8 (fun t => P (8 * q + t)) = 0 := by
    rw [← bitByte_nat]
    constructor
    · intro h; rw [h]; rfl
    · intro h; exact UInt8.toNat_inj.1 (by rw [h]; rfl)
  rw [Ne, e, bsum_zero]
  constructor
  · intro h
    apply Classical.byContradiction
    intro h2
    apply h
    intro t ht
    cases hp : P (8 * q + t) with
    | false => rfl
    | true => exact absurd ⟨t, ht, hp⟩ h2
  · rintro ⟨t, ht, hp⟩ h
    rw [h t ht] at hp
    cases hp
theorem bits_any (n : Nat) (P : Nat → Bool) : (bitsN n P).any (· != 0) = anyN (8 * n) P := by
  rw [Bool.eq_iff_iff]
  unfold anyN bitsN
  rw [List.any_eq_true, List.any_eq_true]
  constructor
  · rintro ⟨x, hx, hne⟩
    obtain ⟨q, hq, rfl⟩ := List.mem_map.1 hx
    rw [List.mem_range] at hq
    obtain ⟨t, ht, hp⟩ := (bitByte_ne P q).1 (by simpa using hne)
    exact ⟨8 * q + t, List.mem_range.2 (by omega), hp⟩
  · rintro ⟨j, hj, hp⟩
    rw [List.mem_range] at hj
    refine ⟨bitByte P (j / 8), List.mem_map.2 ⟨j / 8, List.mem_range.2 (by omega), rfl⟩, ?_⟩
    have := (bitByte_ne P (j / 8)).2 ⟨j % 8, by omega, by rw [show 8 * (j / 8) + j % 8 = j by omega]; exact hp⟩
    simpa using this
end Go.Proofs.Ytgbaigbplaoeaaa
