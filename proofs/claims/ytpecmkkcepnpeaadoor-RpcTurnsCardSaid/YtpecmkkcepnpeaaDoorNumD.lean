/- Crc of the program and of the document. -/
import Derived.Test.YtpecmkkcepnpeaaDoorNumB
namespace Go.Proofs.YtpecmkkcepnpeaaDoor
set_option linter.unusedVariables false
set_option linter.unusedSimpArgs false
open Go.RowKit

theorem xor_u32 (a b : Nat) (ha : a < 4294967296) (hb : b < 4294967296) : bits .xor .u32 (a : Int) (b : Int) = ((a ^^^ b : Nat) : Int) := by
  rw [u32_xor _ _ (by omega) (by omega) (by omega) (by omega)]; rfl

theorem and1_u32 (y : Nat) (hy : y < 4294967296) : bits .and .u32 (y : Int) 1 = ((y % 2 : Nat) : Int) := by
  rw [u32_and _ _ (by omega) (by omega) (by omega) (by omega)]
  have : ((y : Int).toNat &&& (1 : Int).toNat) = y % 2 := by
    show y &&& 1 = y % 2
    exact Nat.and_one_is_mod y
  rw [this]
theorem crc_end (c : Nat) (hc : c < 4294967296) : Value.int .u32 (bits .xor .u32 IntKind.u32.max (c : Int)) = .int .u32 ((c ^^^ 4294967295 : Nat) : Int) := by
  have := xor_u32 4294967295 c (by omega) hc
  rw [Nat.xor_comm] at this
  rw [← this]; rfl
/-- rows of bytes -/
def RdRows (v : Value) (rows : List (List UInt8)) (w : World) : Prop :=
  (v = .slice none 0 0 ∧ rows = []) ∨ ∃ b off c, v = .slice (some ⟨b, off, none⟩) rows.length c ∧ rows.length ≤ c ∧ c ≤ 9223372036854775807 ∧ ∀ i, i < rows.length → ∃ vi, w.cell? ⟨b, off + i, none⟩ = some vi ∧ RdB vi (rows.getD i []) w
theorem RdRows.valn {w : World} {v : Value} {l : List (List UInt8)} (h : RdRows v l w) : ∃ a c, v = .slice a l.length c ∧ l.length ≤ c ∧ c ≤ 9223372036854775807 := by
  rcases h with ⟨rfl, rfl⟩ | ⟨b, off, c, rfl, h1, h2, _⟩
  · exact ⟨none, 0, rfl, by simp, by omega⟩
  · exact ⟨_, c, rfl, h1, h2⟩
theorem RdRows.at {w : World} {a : Option Addr} {n c : Nat} {l : List (List UInt8)} (h : RdRows (.slice a n c) l w) (hl : 0 < l.length) : ∃ b off, a = some ⟨b, off, none⟩ ∧ ∀ i, i < l.length → ∃ vi, w.cell? ⟨b, off + i, none⟩ = some vi ∧ RdB vi (l.getD i []) w := by
  rcases h with ⟨_, rfl⟩ | ⟨b, off, c, h0, h1, h2, h3⟩
  · simp at hl
  · cases h0; exact ⟨b, off, rfl, h3⟩

section
variable {w : World} {L : List HP}
end
end Go.Proofs.YtpecmkkcepnpeaaDoor
