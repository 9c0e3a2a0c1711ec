/- Bits in rows of bytes. Plain mathematics. No condition. -/
import Derived.Test.YtklnlomleiebaaaBytes
namespace Go.Proofs.Ytklnlomleiebaaa
set_option linter.unusedVariables false
set_option linter.unusedSimpArgs false

/-- the number whose bits are told -/
def bsum : Nat → (Nat → Bool) → Nat
  | 0, _ => 0
  | n + 1, f => (if f 0 then 1 else 0) + 2 * bsum n (fun t => f (t + 1))
theorem bsum_lt (n : Nat) : ∀ f, bsum n f < 2 ^ n := by
  induction n with
  | zero => intro f; simp [bsum]
  | succ n ih => intro f; have := ih (fun t => f (t + 1)); simp only [bsum, Nat.pow_succ]; split <;> omega
theorem bsum_bit (n : Nat) : ∀ f t, (bsum n f).testBit t = (decide (t < n) && f t) := by
  induction n with
  | zero => intro f t; simp [bsum]
  | succ n ih =>
    intro f t
    cases t with
    | zero =>
      simp only [bsum, Nat.testBit_zero]
      cases f 0 <;> simp <;> omega
    | succ t =>
      rw [Nat.testBit_succ]
      have : bsum (n + 1) f / 2 = bsum n (fun t => f (t + 1)) := by simp only [bsum]; split <;> omega
      rw [this, ih]
      simp
theorem bsum_congr {n : Nat} {f g : Nat → Bool} (h : ∀ t, t < n → f t = g t) : bsum n f = bsum n g := by
  apply Nat.eq_of_testBit_eq
  intro t
  rw [bsum_bit, bsum_bit]
  by_cases ht : t < n
  · simp [ht, h t ht]
  · simp [ht]
theorem bsum_or {n s : Nat} (hs : s < n) (f : Nat → Bool) : bsum n f ||| 2 ^ s = bsum n (fun t => f t || t == s) := by
  apply Nat.eq_of_testBit_eq
  intro t
  rw [Nat.testBit_or, bsum_bit, bsum_bit, Nat.testBit_two_pow]
  by_cases ht : t = s
  · subst ht; simp [hs]
  · have h1 : ¬ s = t := fun e => ht e.symm
    have h2 : (t == s) = false := by simpa using ht
    simp [h1, h2]
theorem bsum_andnot {n s : Nat} (f : Nat → Bool) (x : Nat) (hx : ∀ t, x.testBit t = (decide (t < n) && (f t && !(t == s)))) : x = bsum n (fun t => f t && !(t == s)) := by
  apply Nat.eq_of_testBit_eq
  intro t
  rw [hx, bsum_bit]

/-- a block of bits: those that P says are 1 -/
def bitByte (P : Nat → Bool) (q : Nat) : UInt8 := UInt8.ofNat (bsum 8 (fun t => P (8 * q + t)))
theorem bitByte_nat (P : Nat → Bool) (q : Nat) : (bitByte P q).toNat = bsum 8 (fun t => P (8 * q + t)) := by
  have := bsum_lt 8 (fun t => P (8 * q + t))
  simp [bitByte]; omega
def bitsN (n : Nat) (P : Nat → Bool) : List UInt8 := (List.range n).map (bitByte P)
section
variable {n : Nat}
theorem bitsN_len (P : Nat → Bool) : (bitsN n P).length = n := by rw [bitsN, List.length_map, List.length_range]
theorem bitsN_get (P : Nat → Bool) {q : Nat} (h : q < n) : (bitsN n P)[q]? = some (bitByte P q) := by simp [bitsN, h]
theorem bitsN_getD (P : Nat → Bool) {q : Nat} (h : q < n) : (bitsN n P).getD q 0 = bitByte P q := by simp [List.getD, bitsN_get P h]
theorem bitsN_congr {P R : Nat → Bool} (h : ∀ i, i < 8 * n → P i = R i) : bitsN n P = bitsN n R := by
  unfold bitsN
  apply List.map_congr_left
  intro q hq
  have hq : q < n := by simpa using hq
  unfold bitByte
  rw [bsum_congr fun t ht => h (8 * q + t) (by omega)]
theorem bitsN_put (P R : Nat → Bool) {i : Nat} (hi : i < n) (x : UInt8) (hx : x = bitByte R i) (hPR : ∀ j, j / 8 ≠ i → P j = R j) : (bitsN n P).set i x = bitsN n R := by
  apply List.ext_getElem?
  intro q
  rw [List.getElem?_set]
  by_cases hq : q < n
  · rw [bitsN_get _ hq, bitsN_get _ hq]
    by_cases hqi : i = q
    · subst hqi
      rw [if_pos rfl, if_pos (by rw [bitsN_len]; exact hq), hx]
    · have e : bitByte P q = bitByte R q := by
        unfold bitByte
        rw [bsum_congr fun t ht => hPR (8 * q + t) (by omega)]
      rw [if_neg hqi, e]
  · have e : ∀ R, (bitsN n R)[q]? = none := fun R => List.getElem?_eq_none (by rw [bitsN_len]; omega)
    rw [e, e]
    split
    · rw [if_neg (by rw [bitsN_len]; omega)]
    · rfl
/-- a bit is set -/
theorem bitByte_or (P : Nat → Bool) (i : Nat) : UInt8.ofNat ((bitByte P (i / 8)).toNat ||| 2 ^ (i % 8)) = bitByte (fun j => P j || j == i) (i / 8) := by
  rw [bitByte_nat]
  unfold bitByte
  congr 1
  rw [bsum_or (Nat.mod_lt i (by omega))]
  apply bsum_congr
  intro t ht
  have : (t == i % 8) = (8 * (i / 8) + t == i) := by
    rw [Bool.eq_iff_iff]; simp; omega
  rw [this]
theorem bitsN_set (P : Nat → Bool) {i : Nat} (hi : i < 8 * n) : (bitsN n P).set (i / 8) (UInt8.ofNat ((bitByte P (i / 8)).toNat ||| 2 ^ (i % 8))) = bitsN n (fun j => P j || j == i) := by
  refine bitsN_put P _ (by omega) _ (bitByte_or P i) fun j hj => ?_
  have : (j == i) = false := by
    by_cases h : j = i
    · subst h; exact absurd rfl hj
    · simpa using h
  simp [this]
theorem bitsN_zero : bitsN n (fun _ => false) = List.replicate n 0 := by
  apply List.ext_getElem?
  intro q
  by_cases hq : q < n
  · rw [bitsN_get _ hq]
    have : bitByte (fun _ => false) q = 0 := by
      unfold bitByte
      rw [show (bsum 8 fun t => false) = 0 from rfl]; rfl
    rw [this, List.getElem?_replicate, if_pos hq]
  · rw [List.getElem?_eq_none (by rw [bitsN_len]; omega), List.getElem?_eq_none (by simp; omega)]
end
end Go.Proofs.Ytklnlomleiebaaa
