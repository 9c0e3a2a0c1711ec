/- Crc of the program and of the document. -/
import Derived.Test.YtklnlomleiebaaaNumB
namespace Go.Proofs.Ytklnlomleiebaaa
set_option linter.unusedVariables false
set_option linter.unusedSimpArgs false
open Go.RowKit

theorem xor_u32 (a b : Nat) (ha : a < 4294967296) (hb : b < 4294967296) : bits .xor .u32 (a : Int) (b : Int) = ((a ^^^ b : Nat) : Int) := by
  rw [u32_xor _ _ (by omega) (by omega) (by omega) (by omega)]; rfl

theorem and1_u32 (y : Nat) (hy : y < 4294967296) : bits .and .u32 (y : Int) 1 = ((y % 2 : Nat) : Int) := by
  rw [u32_and _ _ (by omega) (by omega) (by omega) (by omega)]
  have : ((y : Int).toNat &&& (1 : Int).toNat) = y % 2 := by
    show y &&& 1 = y % 2
    exact Nat.and_one_is_mod y
  rw [this]
theorem crc_end (c : Nat) (hc : c < 4294967296) : Value.int .u32 (bits .xor .u32 IntKind.u32.max (c : Int)) = .int .u32 ((c ^^^ 4294967295 : Nat) : Int) := by
  have := xor_u32 4294967295 c (by omega) hc
  rw [Nat.xor_comm] at this
  rw [← this]; rfl
/-- rows of bytes -/
def RdRows (v : Value) (rows : List (List UInt8)) (w : World) : Prop :=
  (v = .slice none 0 0 ∧ rows = []) ∨ ∃ b off c, v = .slice (some ⟨b, off, none⟩) rows.length c ∧ rows.length ≤ c ∧ c ≤ 9223372036854775807 ∧ ∀ i, i < rows.length → ∃ vi, w.cell? ⟨b, off + i, none⟩ = some vi ∧ RdB vi (rows.getD i []) w
theorem RdRows.valn {w : World} {v : Value} {l : List (List UInt8)} (h : RdRows v l w) : ∃ a c, v = .slice a l.length c ∧ l.length ≤ c ∧ c ≤ 9223372036854775807 := by
  rcases h with ⟨rfl, rfl⟩ | ⟨b, off, c, rfl, h1, h2, _⟩
  · exact ⟨none, 0, rfl, by simp, by omega⟩
  · exact ⟨_, c, rfl, h1, h2⟩
theorem RdRows.at {w : World} {a : Option Addr} {n c : Nat} {l : List (List UInt8)} (h : RdRows (.slice a n c) l w) (hl : 0 < l.length) : ∃ b off, a = some ⟨b, off, none⟩ ∧ ∀ i, i < l.length → ∃ vi, w.cell? ⟨b, off + i, none⟩ = some vi ∧ RdB vi (l.getD i []) w := by
  rcases h with ⟨_, rfl⟩ | ⟨b, off, c, h0, h1, h2, h3⟩
  · simp at hl
  · cases h0; exact ⟨b, off, rfl, h3⟩

section
variable {w : World} {L : List HP}
set_option maxHeartbeats 1000000 in
theorem refcrc_ok {v : Value} {l : List UInt8} (h : RdB v l w) :
    Calls Try.prog 47 #[v] w fun e w' => e = .returned (.int .u32 (crcN l : Nat)) ∧ w = w' := by
  obtain ⟨a, c, rfl, g1, g2⟩ := h.valn
  go_enter Try.func47, Try.ntmps47
  go_wp2
  go_loop [3, 4] (fun s i => ∃ j : Nat, j ≤ l.length ∧ i = .int .i64 j ∧ s = .int .u32 (crcRun 4294967295 (l.take j) : Nat)) (fun _ i => l.length - (intOf i).toNat)
  case atStart => exact ⟨0, by omega, rfl, rfl⟩
  case round =>
    obtain ⟨j, hj, rfl, rfl⟩ := hrel
    have hlt2 := crcRun_lt (l.take j) (c := 4294967295) (by omega)
    by_cases hlt : j < l.length
    · obtain ⟨_, _, _, b, off, rfl, hcell⟩ := h.at (by omega)
      have hc := hcell j hlt
      have hsn := hid (show crcRun 4294967295 (l.take (j + 1)) = crcBits 8 (crcRun 4294967295 (l.take j) ^^^ (l.getD j 0).toNat) by
        rw [take_byte hlt, crcRun_snoc]; rfl)
      have hz := u8_lt (l.getD j 0)
      generalize crcRun 4294967295 (l.take j) = x at *
      generalize (l.getD j 0).toNat = z at *
      have hx := xor_u32 x z hlt2 (by omega)
      have hxl := xor_lt32 hlt2 (show z < 4294967296 by omega)
      clear hcell h
      go_wp2
      go_loop [3, 5] (fun s i => ∃ m : Nat, m ≤ 8 ∧ i = .int .i64 m ∧ s = .int .u32 (crcBits m (x ^^^ z) : Nat)) (fun _ i => 8 - (intOf i).toNat)
      case atStart => exact ⟨0, by omega, rfl, rfl⟩
      case round =>
        obtain ⟨m, hm, rfl, rfl⟩ := hrel
        by_cases hm8 : m < 8
        · have hbl := crcBits_lt m hxl
          have hs2 := hid (show crcBits (m + 1) (x ^^^ z) = crcBit (crcBits m (x ^^^ z)) from rfl)
          generalize crcBits m (x ^^^ z) = y at *
          by_cases ho : y % 2 = 1
          · have ho' : (y : Int) % 2 = 1 := by omega
            have Hb := hid (show crcBit y = (y / 2) ^^^ 2197175160 by unfold crcBit; rw [if_pos ho])
            have ho2 : (bits .and .u32 (y : Int) 1 == 1) = true := by rw [and1_u32 y hbl, ho]; rfl
            have hx2 := xor_u32 (y / 2) 2197175160 (by omega) (by omega)
            clear ho ho'
            go_wp2
            go_round
            case rel => exact ⟨m + 1, by omega, by go_num, by rw [hs2.out, Hb.out, ← hx2]; rfl⟩
            case measure => simp [intOf]; omega
          · have ho' : (y : Int) % 2 = 0 := by omega
            have Hb := hid (show crcBit y = y / 2 by unfold crcBit; rw [if_neg ho, Nat.xor_zero])
            have ho2 : (bits .and .u32 (y : Int) 1 == 1) = false := by rw [and1_u32 y hbl, show y % 2 = 0 by omega]; rfl
            clear ho ho'
            go_wp2
            go_round
            case rel => exact ⟨m + 1, by omega, by go_num, by rw [hs2.out, Hb.out]; rfl⟩
            case measure => simp [intOf]; omega
        · obtain rfl : m = 8 := by omega
          go_wp2
          go_round
          case rel => exact ⟨j + 1, by omega, by go_num, by rw [hsn.out]⟩
          case measure => simp [intOf]; omega
    · obtain rfl : j = l.length := by omega
      rw [List.take_length] at *
      go_wp2
      go_ret
      exact ⟨congrArg Ending.returned (crc_end _ (crcRun_lt l (by omega))), rfl⟩

end
end Go.Proofs.Ytklnlomleiebaaa
