/- Rows of bytes: their cells, numbers laid down and read, the sum of disks. Plain mathematics and the one resource 'SlB'. No condition. -/
import Derived.Test.YtklnlomleiebaaaStore
namespace Go.Proofs.Ytklnlomleiebaaa
set_option linter.unusedVariables false
set_option linter.unusedSimpArgs false
open Go.RowKit

abbrev bv (b : UInt8) : Value := .int .u8 (b.toNat : Int)
abbrev bvs (l : List UInt8) : List Value := l.map bv
theorem bvs_len (l : List UInt8) : (bvs l).length = l.length := by simp
theorem bvs_one (l : List UInt8) : ∀ y ∈ bvs l, y.oneCell' = true := by
  intro y hy; obtain ⟨b, _, rfl⟩ := List.mem_map.1 hy; rfl
theorem bvs_append (a b : List UInt8) : bvs (a ++ b) = bvs a ++ bvs b := by simp
theorem bvs_get {l : List UInt8} {i : Nat} {b : UInt8} (h : l[i]? = some b) : (bvs l)[i]? = some (bv b) := by rw [List.getElem?_map, h]; rfl
theorem u8_lt (b : UInt8) : b.toNat < 256 := b.toNat_lt
theorem bv_inj {x y : UInt8} (h : bv x = bv y) : x = y := by
  injection h with _ h2
  have : x.toNat = y.toNat := by exact_mod_cast h2
  exact UInt8.toNat_inj.1 this
theorem bvs_inj {a b : List UInt8} (h : bvs a = bvs b) : a = b := by
  induction a generalizing b with
  | nil => cases b with | nil => rfl | cons y b => simp at h
  | cons x a ih => cases b with
    | nil => simp at h
    | cons y b => simp only [List.map_cons, List.cons.injEq] at h; rw [bv_inj h.1, ih h.2]

/-- a byte of a number -/
def byteOf (n : Nat) : UInt8 := UInt8.ofNat (n % 256)
theorem byteOf_nat (n : Nat) : (byteOf n).toNat = n % 256 := by simp [byteOf]
theorem bv_byteOf (n : Nat) : bv (byteOf n) = .int .u8 ((n % 256 : Nat) : Int) := by rw [bv, byteOf_nat]

/-- a number's bytes, the lowest first -/
def lowb : Nat → Nat → List UInt8
  | 0, _ => []
  | n + 1, v => byteOf v :: lowb n (v / 256)
theorem lowb_len (n : Nat) : ∀ v, (lowb n v).length = n := by
  induction n with
  | zero => intro v; rfl
  | succ n ih => intro v; simp [lowb, ih]
theorem lowb_snoc (n : Nat) : ∀ v, lowb (n + 1) v = lowb n v ++ [byteOf (v / 256 ^ n)] := by
  induction n with
  | zero => intro v; simp [lowb]
  | succ n ih =>
    intro v
    rw [lowb, ih (v / 256), lowb, List.cons_append, Nat.div_div_eq_div_mul]
    congr 3
    rw [Nat.pow_succ, Nat.mul_comm]
/-- the number that bytes say, the lowest first -/
def leN : List UInt8 → Nat
  | [] => 0
  | b :: l => b.toNat + 256 * leN l
theorem leN_lt (l : List UInt8) : leN l < 256 ^ l.length := by
  induction l with
  | nil => simp [leN]
  | cons b l ih =>
    have := u8_lt b
    rw [leN, List.length_cons, Nat.pow_succ]
    omega
theorem leN_lowb (n : Nat) : ∀ v, leN (lowb n v) = v % 256 ^ n := by
  induction n with
  | zero => intro v; simp [lowb, leN, Nat.mod_one]
  | succ n ih =>
    intro v
    rw [lowb, leN, ih, byteOf_nat, Nat.pow_succ, Nat.mul_comm (256 ^ n) 256, Nat.mod_mul]
theorem leN_snoc (l : List UInt8) (b : UInt8) : leN (l ++ [b]) = leN l + b.toNat * 256 ^ l.length := by
  induction l with
  | nil => simp [leN]
  | cons c l ih =>
    rw [List.cons_append, leN, ih, leN, List.length_cons, Nat.pow_succ, Nat.mul_add, ← Nat.mul_assoc, Nat.mul_comm 256 b.toNat, Nat.mul_assoc, Nat.mul_comm 256 (256 ^ l.length)]
    omega

/-- the sum of disks -/
def crcBit (c : Nat) : Nat := (c / 2) ^^^ (if c % 2 = 1 then 2197175160 else 0)
def crcBits : Nat → Nat → Nat
  | 0, c => c
  | k + 1, c => crcBit (crcBits k c)
def crcByte (c : Nat) (b : UInt8) : Nat := crcBits 8 (c ^^^ b.toNat)
def crcRun (c : Nat) (l : List UInt8) : Nat := l.foldl crcByte c
def crcN (l : List UInt8) : Nat := crcRun 4294967295 l ^^^ 4294967295
theorem xor_lt32 {a b : Nat} (ha : a < 4294967296) (hb : b < 4294967296) : a ^^^ b < 4294967296 := Nat.xor_lt_two_pow (n := 32) (by omega) (by omega)
theorem crcBit_lt {c : Nat} (h : c < 4294967296) : crcBit c < 4294967296 := by
  unfold crcBit; refine xor_lt32 (by omega) ?_; split <;> omega
theorem crcBits_lt (k : Nat) {c : Nat} (h : c < 4294967296) : crcBits k c < 4294967296 := by
  induction k with
  | zero => exact h
  | succ k ih => exact crcBit_lt ih
theorem crcByte_lt {c : Nat} (h : c < 4294967296) (b : UInt8) : crcByte c b < 4294967296 := crcBits_lt 8 (xor_lt32 h (by have := u8_lt b; omega))
theorem crcRun_lt (l : List UInt8) : ∀ {c : Nat}, c < 4294967296 → crcRun c l < 4294967296 := by
  induction l with
  | nil => intro c h; exact h
  | cons b l ih => intro c h; exact ih (crcByte_lt h b)
theorem crcN_lt (l : List UInt8) : crcN l < 4294967296 := xor_lt32 (crcRun_lt l (by omega)) (by omega)
theorem crcRun_append (c : Nat) (a b : List UInt8) : crcRun c (a ++ b) = crcRun (crcRun c a) b := by simp [crcRun]
theorem crcRun_snoc (c : Nat) (a : List UInt8) (b : UInt8) : crcRun c (a ++ [b]) = crcByte (crcRun c a) b := by simp [crcRun]

theorem take_byte {l : List UInt8} {j : Nat} (h : j < l.length) : l.take (j + 1) = l.take j ++ [l.getD j 0] := by
  rw [List.take_add_one, List.getElem?_eq_getElem h]; simp [List.getD, h]

/-- a row of bytes that is owned -/
abbrev SlB (T : Nat) (v : Value) (l : List UInt8) : HP := Sl T v (bvs l)

section
variable {w : World} {l : List HP} {T : Nat} {v : Value} {xs : List UInt8}
theorem SlB.valn (h : SatL w (SlB T v xs :: l)) : ∃ a c, v = .slice a xs.length c ∧ xs.length ≤ c ∧ c ≤ 9223372036854775807 := Sl.valn h (bvs_len xs)
theorem SlB.cell {b off n c i : Nat} (h : SatL w (SlB T (.slice (some ⟨b, off, none⟩) n c) xs :: l)) (hi : i < xs.length) : w.cell? ⟨b, off + i, none⟩ = some (.int .u8 (((xs.getD i 0).toNat : Nat) : Int)) :=
  Sl.cell h (bvs_get (by rw [List.getElem?_eq_getElem hi]; simp [List.getD, hi]))
theorem SlB.slice {b off n c i j : Nat} (h : SatL w (SlB T (.slice (some ⟨b, off, none⟩) n c) xs :: l)) (hij : i ≤ j) (hj : j ≤ n) : SatL w (SlB T (.slice (some ⟨b, off + i, none⟩) (j - i) (c - i)) ((xs.take j).drop i) :: l) := by
  have := Sl.slice h hij hj
  rwa [← List.map_take, ← List.map_drop] at this
theorem SlB.snoc {a : List UInt8} {b : UInt8} (h : SatL w (Sl T v (bvs a ++ [bv b]) :: l)) : SatL w (SlB T v (a ++ [b]) :: l) := by
  unfold SlB; rw [bvs_append]; exact h
theorem SlB.app {a b : List UInt8} (h : SatL w (Sl T v (bvs a ++ bvs b) :: l)) : SatL w (SlB T v (a ++ b) :: l) := by
  unfold SlB; rw [bvs_append]; exact h
end
end Go.Proofs.Ytklnlomleiebaaa
