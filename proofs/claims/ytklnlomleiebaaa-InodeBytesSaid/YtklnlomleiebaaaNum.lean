/- Numbers as bytes: size, cut, Le of the program. No condition beside what each statement names. -/
import Derived.Test.YtklnlomleiebaaaBytes
import Derived.Test.YtklnlomleiebaaaChecked
import Derived.Laws.BitsAll
namespace Go.Proofs.Ytklnlomleiebaaa
set_option linter.unusedVariables false
set_option linter.unusedSimpArgs false
open Go.RowKit

/-- the value v reads as these bytes -/
def RdB (v : Value) (l : List UInt8) (w : World) : Prop :=
  (v = .slice none 0 0 ∧ l = []) ∨ ∃ b off c, v = .slice (some ⟨b, off, none⟩) l.length c ∧ l.length ≤ c ∧ c ≤ 9223372036854775807 ∧ ∀ i, i < l.length → w.cell? ⟨b, off + i, none⟩ = some (.int .u8 (((l.getD i 0).toNat : Nat) : Int))
/-- the value v reads as these numbers -/
def RdU (v : Value) (l : List Nat) (w : World) : Prop :=
  (v = .slice none 0 0 ∧ l = []) ∨ ∃ b off c, v = .slice (some ⟨b, off, none⟩) l.length c ∧ l.length ≤ c ∧ c ≤ 9223372036854775807 ∧ ∀ i, i < l.length → w.cell? ⟨b, off + i, none⟩ = some (.int .u64 ((l.getD i 0 : Nat) : Int))
/-- what is held gives this, in whatever world -/
def Gives (L : List HP) (F : World → Prop) : Prop := ∀ w, SatL w L → F w

theorem RdB.valn {w : World} {v : Value} {l : List UInt8} (h : RdB v l w) : ∃ a c, v = .slice a l.length c ∧ l.length ≤ c ∧ c ≤ 9223372036854775807 := by
  rcases h with ⟨rfl, rfl⟩ | ⟨b, off, c, rfl, h1, h2, _⟩
  · exact ⟨none, 0, rfl, by simp, by omega⟩
  · exact ⟨_, c, rfl, h1, h2⟩
theorem RdB.at {w : World} {a : Option Addr} {n c : Nat} {l : List UInt8} (h : RdB (.slice a n c) l w) (hl : 0 < l.length) : n = l.length ∧ n ≤ c ∧ c ≤ 9223372036854775807 ∧ ∃ b off, a = some ⟨b, off, none⟩ ∧ ∀ i, i < l.length → w.cell? ⟨b, off + i, none⟩ = some (.int .u8 (((l.getD i 0).toNat : Nat) : Int)) := by
  rcases h with ⟨_, rfl⟩ | ⟨b, off, c, h0, h1, h2, h3⟩
  · simp at hl
  · cases h0; exact ⟨rfl, h1, h2, b, off, rfl, h3⟩
theorem SlB.rd {w : World} {L : List HP} {T : Nat} {v : Value} {l : List UInt8} (h : SatL w (SlB T v l :: L)) : RdB v l w := by
  obtain ⟨a, c, rfl, h1, h2⟩ := SlB.valn h
  rcases Nat.eq_zero_or_pos l.length with h0 | h0
  · rcases Sl.form h with ⟨h3, h4⟩ | ⟨b, off, cap, h3, h4, h5⟩
    · injection h3 with e1 e2 e3
      subst e1; subst e3
      exact .inl ⟨by rw [h0], List.eq_nil_of_length_eq_zero h0⟩
    · injection h3 with e1 e2 e3
      subst e1
      exact .inr ⟨b, off, c, rfl, h1, h2, fun i hi => by omega⟩
  · obtain ⟨b, off, rfl⟩ := Sl.addr h h0
    exact .inr ⟨b, off, c, rfl, h1, h2, fun i hi => SlB.cell h hi⟩
theorem RdB.sub {w : World} {b off n c : Nat} {l : List UInt8} (h : RdB (.slice (some ⟨b, off, none⟩) n c) l w) {i j : Nat} (hij : i ≤ j) (hj : j ≤ l.length) : RdB (.slice (some ⟨b, off + i, none⟩) (j - i) (c - i)) ((l.take j).drop i) w := by
  rcases h with ⟨h0, _⟩ | ⟨b', off', c', h0, h1, h2, h3⟩
  · cases h0
  · cases h0
    have hl : ((l.take j).drop i).length = j - i := by simp; omega
    refine .inr ⟨b, off + i, c - i, by rw [hl], by omega, by omega, fun k hk => ?_⟩
    rw [hl] at hk
    rw [Nat.add_assoc, h3 (i + k) (by omega)]
    congr 4
    simp only [List.getD_eq_getElem?_getD, List.getElem?_drop, List.getElem?_take]
    rw [if_pos (by omega)]

def sizeOk (n : Nat) : Prop := n = 1 ∨ n = 2 ∨ n = 4 ∨ n = 8
theorem leN_drop {l : List UInt8} {k : Nat} (hk : k < l.length) : leN (l.drop k) = (l.getD k 0).toNat + 256 * leN (l.drop (k + 1)) := by
  rw [List.drop_eq_getElem_cons hk, leN]
  simp [List.getD, hk]
theorem or_byte (x b : Nat) (hb : b < 256) : x * 256 ||| b = b + 256 * x := by
  have := Nat.two_pow_add_eq_or_of_lt (i := 8) (b := b) (by omega) x
  rw [Nat.mul_comm x 256]
  have e : (2 : Nat) ^ 8 = 256 := rfl
  rw [e] at this
  omega

theorem or_u64 (y z : Nat) (hy : y < 72057594037927936) (hz : z < 256) : bits .or .u64 ((y : Int) * 256) (z : Int) = ((z + 256 * y : Nat) : Int) := by
  rw [u64_or _ _ (by omega) (by omega) (by omega) (by omega)]
  have e : ((y : Int) * 256).toNat = y * 256 := by omega
  rw [e, Int.toNat_natCast, or_byte _ _ hz]

section
variable {w : World}
theorem size_yes (n : Nat) (h : sizeOk n) (w : World) : Calls Try.prog 49 #[.int .i64 n] w fun e w' => e = .returned (.bool true) ∧ w = w' := by
  rcases h with rfl | rfl | rfl | rfl
  all_goals
    go_enter Try.func49, Try.ntmps49
    go_wp2
    go_ret
    exact ⟨rfl, rfl⟩

theorem cut_in {b off n c at_ : Nat} {k : Nat} (hk : sizeOk k) (hat : at_ + k ≤ n) (hc1 : n ≤ c) (hc2 : c ≤ 9223372036854775807) (w : World) :
    Calls Try.prog 48 #[.slice (some ⟨b, off, none⟩) n c, .int .i64 at_, .int .i64 k] w fun e w' => e = .returned (.tuple #[.slice (some ⟨b, off + at_, none⟩) k (c - at_), .int .i64 0]) ∧ w = w' := by
  have hs := size_yes k hk w
  have hkb : 1 ≤ k ∧ k ≤ 8 := by rcases hk with rfl | rfl | rfl | rfl <;> omega
  have h1 : ¬ ((at_ : Int) > (n : Int) - (k : Int)) := by omega
  have h2 : ¬ (at_ = c) := by omega
  clear hk
  go_enter Try.func48, Try.ntmps48
  go_wp2_with (go_at_call 49; (with_reducible refine hs.mono ?_); rintro e w' ⟨rfl, rfl⟩)
  go_ret2
  exact ⟨by rw [Nat.add_sub_cancel_left]; rfl, rfl⟩

theorem le_in {v : Value} {l : List UInt8} {at_ k : Nat} (hk : sizeOk k) (hat : at_ + k ≤ l.length) (h : RdB v l w) :
    Calls Try.prog 43 #[v, .int .i64 at_, .int .i64 k] w fun e w' => e = .returned (.tuple #[.int .u64 ((leN ((l.drop at_).take k) : Nat) : Int), .int .i64 0]) ∧ w = w' := by
  have hkb : 1 ≤ k ∧ k ≤ 8 := by rcases hk with rfl | rfl | rfl | rfl <;> omega
  obtain ⟨a, c, rfl, g1, g2⟩ := h.valn
  obtain ⟨_, _, _, b, off, rfl, hcell⟩ := h.at (by omega)
  have hcut := cut_in (b := b) (off := off) (n := l.length) (c := c) hk hat g1 g2 w
  have hrl : ((l.drop at_).take k).length = k := by simp; omega
  have hcell' : ∀ i, i < k → w.cell? ⟨b, off + at_ + i, none⟩ = some (.int .u8 (((((l.drop at_).take k).getD i 0).toNat : Nat) : Int)) := by
    intro i hi
    rw [Nat.add_assoc, hcell (at_ + i) (by omega)]
    congr 4
    simp only [List.getD_eq_getElem?_getD, List.getElem?_drop, List.getElem?_take]
    rw [if_pos hi]
  generalize (l.drop at_).take k = r at *
  clear hk hcell h hat
  go_enter Try.func43, Try.ntmps43
  go_wp2_with (go_at_call 48; (with_reducible refine hcut.mono ?_); rintro e w' ⟨rfl, rfl⟩)
  clear hcut
  go_loop [10, 11] (fun x i => ∃ j : Nat, j ≤ k ∧ i = .int .i64 ((j : Int) - 1) ∧ x = .int .u64 ((leN (r.drop j) : Nat) : Int)) (fun _ i => ((intOf i) + 1).toNat)
  case atStart => exact ⟨k, by omega, rfl, by rw [List.drop_of_length_le (by omega)]; rfl⟩
  case round =>
    obtain ⟨j, hj, rfl, rfl⟩ := hrel
    by_cases hlt : 0 < j
    · obtain ⟨i, rfl⟩ : ∃ i, j = i + 1 := ⟨j - 1, by omega⟩
      have hc := hcell' i (by omega)
      have e1 := leN_drop (l := r) (k := i) (by omega)
      have e2 := leN_lt (r.drop (i + 1))
      have e3 : 256 ^ (r.drop (i + 1)).length ≤ 256 ^ 7 := Nat.pow_le_pow_right (by omega) (by simp; omega)
      have e4 : (256 : Nat) ^ 7 = 72057594037927936 := by decide
      have e5 : leN (r.drop (i + 1)) < 72057594037927936 := by omega
      have e6 := u8_lt (r.getD i 0)
      generalize leN (r.drop (i + 1)) = y at *
      generalize (r.getD i 0).toNat = z at *
      have hi1 : ((i + 1 : Nat) : Int) - 1 = (i : Int) := by omega
      have E1 := hid e1
      clear e1 e2 e3 e4
      go_wp2
      go_round
      case rel => exact ⟨i, by omega, rfl, by rw [or_u64 y z e5 e6, E1.out]⟩
      case measure => simp [intOf]
    · obtain rfl : j = 0 := by omega
      go_wp2
      go_ret2
      exact ⟨rfl, rfl⟩
end
end Go.Proofs.Ytklnlomleiebaaa
