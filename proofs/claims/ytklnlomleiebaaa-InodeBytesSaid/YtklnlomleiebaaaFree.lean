/- free of a view: how many bits are not set. -/
import Derived.Test.YtklnlomleiebaaaGive
namespace Go.Proofs.Ytklnlomleiebaaa
set_option linter.unusedVariables false
set_option linter.unusedSimpArgs false
open Go.RowKit

/-- how many of the first m are not set -/
def nfree (U : Nat → Bool) : Nat → Nat
  | 0 => 0
  | m + 1 => nfree U m + if U m then 0 else 1
theorem nfree_le (U : Nat → Bool) (m : Nat) : nfree U m ≤ m := by
  induction m with
  | zero => exact Nat.le_refl _
  | succ m ih => simp only [nfree]; split <;> omega
theorem nfree_congr {U V : Nat → Bool} {m : Nat} (h : ∀ j, j < m → U j = V j) : nfree U m = nfree V m := by
  induction m with
  | zero => rfl
  | succ m ih => simp only [nfree]; rw [ih fun j hj => h j (by omega), h m (by omega)]
theorem nfree_none {U : Nat → Bool} {a m : Nat} (ha : a ≤ m) (h : ∀ j, a ≤ j → j < m → U j = true) : nfree U m = nfree U a := by
  induction m with
  | zero => obtain rfl : a = 0 := by omega
            rfl
  | succ m ih =>
    by_cases e : a = m + 1
    · rw [e]
    · simp only [nfree]; rw [ih (by omega) fun j h1 h2 => h j h1 (by omega), h m (by omega) (by omega)]; rfl

/-- how many bits of a byte are set -/
def pop8 (x : Nat) : Nat := x % 2 + x / 2 % 2 + x / 4 % 2 + x / 8 % 2 + x / 16 % 2 + x / 32 % 2 + x / 64 % 2 + x / 128 % 2
theorem pop8_dec : ∀ x : Fin 256, x.val ≠ 0 → pop8 (x.val &&& (x.val - 1)) + 1 = pop8 x.val := by decide +kernel
theorem pop8_pos : ∀ x : Fin 256, x.val ≠ 0 → 0 < pop8 x.val := by decide +kernel
theorem pop8_not : ∀ b0 b1 b2 b3 b4 b5 b6 b7 : Bool, pop8 (255 - ((if b0 then 1 else 0) + 2 * ((if b1 then 1 else 0) + 2 * ((if b2 then 1 else 0) + 2 * ((if b3 then 1 else 0) + 2 * ((if b4 then 1 else 0) + 2 * ((if b5 then 1 else 0) + 2 * ((if b6 then 1 else 0) + 2 * ((if b7 then 1 else 0) + 2 * 0)))))))))
    = (((((((0 + if b0 then 0 else 1) + if b1 then 0 else 1) + if b2 then 0 else 1) + if b3 then 0 else 1) + if b4 then 0 else 1) + if b5 then 0 else 1) + if b6 then 0 else 1) + if b7 then 0 else 1 := by decide +kernel
theorem nfree_byte (U : Nat → Bool) (m q : Nat) : nfree U (m + 8 * (q + 1)) = nfree U (m + 8 * q) + pop8 (255 - (bitByte (fun j => U (m + j)) q).toNat) := by
  rw [bitByte_nat]
  have := pop8_not (U (m + (8 * q))) (U (m + (8 * q + 1))) (U (m + (8 * q + 2))) (U (m + (8 * q + 3))) (U (m + (8 * q + 4))) (U (m + (8 * q + 5))) (U (m + (8 * q + 6))) (U (m + (8 * q + 7)))
  have e : bsum 8 (fun t => U (m + (8 * q + t))) = ((if U (m + (8 * q)) then 1 else 0) + 2 * ((if U (m + (8 * q + 1)) then 1 else 0) + 2 * ((if U (m + (8 * q + 2)) then 1 else 0) + 2 * ((if U (m + (8 * q + 3)) then 1 else 0) + 2 * ((if U (m + (8 * q + 4)) then 1 else 0) + 2 * ((if U (m + (8 * q + 5)) then 1 else 0) + 2 * ((if U (m + (8 * q + 6)) then 1 else 0) + 2 * ((if U (m + (8 * q + 7)) then 1 else 0) + 2 * 0)))))))) := rfl
  rw [e, this]
  show nfree U (m + 8 * q + 1 + 1 + 1 + 1 + 1 + 1 + 1 + 1) = _
  simp only [nfree, Nat.add_assoc, Nat.zero_add]
theorem not_u8 (x : Nat) (hx : x < 256) : bits .xor .u8 IntKind.u8.max (x : Int) = ((255 - x : Nat) : Int) := by
  have h := u8_xor_nat 255 x (by omega) hx
  have e : ∀ y : Fin 256, 255 ^^^ y.val = 255 - y.val := by decide +kernel
  rw [show (255 : Nat) ^^^ x = 255 - x from e ⟨x, hx⟩] at h
  exact h
section
variable {w : World} {L : List HP} {vb mb i tb dt : Nat} {rows : List (Option (List UInt8))} {puts : Puts}
end
end Go.Proofs.Ytklnlomleiebaaa
