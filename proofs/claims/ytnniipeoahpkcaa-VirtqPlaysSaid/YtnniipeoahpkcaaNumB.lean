/- fits, PutLe, Crc of the program; Low, Noughts, Crc of the document's. -/
import Derived.Test.YtnniipeoahpkcaaNum
import Derived.Laws.ShiftsVarLaws
namespace Go.Proofs.Ytnniipeoahpkcaa
set_option linter.unusedVariables false
set_option linter.unusedSimpArgs false
open Go.RowKit

theorem RdU.at {w : World} {a : Option Addr} {n c : Nat} {l : List Nat} (h : RdU (.slice a n c) l w) (hl : 0 < l.length) : n = l.length ∧ n ≤ c ∧ c ≤ 9223372036854775807 ∧ ∃ b off, a = some ⟨b, off, none⟩ ∧ ∀ i, i < l.length → w.cell? ⟨b, off + i, none⟩ = some (.int .u64 ((l.getD i 0 : Nat) : Int)) := by
  rcases h with ⟨_, rfl⟩ | ⟨b, off, c, h0, h1, h2, h3⟩
  · simp at hl
  · cases h0; exact ⟨rfl, h1, h2, b, off, rfl, h3⟩
theorem RdU.valn {w : World} {v : Value} {l : List Nat} (h : RdU v l w) : ∃ a c, v = .slice a l.length c ∧ l.length ≤ c ∧ c ≤ 9223372036854775807 := by
  rcases h with ⟨rfl, rfl⟩ | ⟨b, off, c, rfl, h1, h2, _⟩
  · exact ⟨none, 0, rfl, by simp, by omega⟩
  · exact ⟨_, c, rfl, h1, h2⟩
theorem SrcOk.ofRdB {w : World} {v : Value} {l : List UInt8} (h : RdB v l w) : SrcOk Try.prog 24 1 w v l.length (bvs l) := by
  refine ⟨by simp, ?_⟩
  rcases h with ⟨rfl, rfl⟩ | ⟨b, off, c, rfl, h1, h2, h3⟩
  · exact .inl ⟨rfl, rfl, 5, by kernel_rfl⟩
  · refine .inr (.inl ⟨_, _, rfl, ⟨5, by kernel_rfl⟩, fun j y hy => ?_⟩)
    rw [addr_add]
    have hj : j < l.length := by have := (List.getElem?_eq_some_iff.1 hy).1; simpa using this
    rw [h3 j hj, ← hy]
    rw [List.getElem?_map, List.getElem?_eq_getElem hj]
    simp [List.getD, hj]
theorem elem_byte : ElemOk Try.prog 24 5 1 1 [Value.int .u8 0] := .of (z := .int .u8 0) (by kernel_rfl) (by kernel_rfl) rfl rfl (by decide) (by simp [Value.oneCell'])

theorem shr_at (x i : Nat) (hi : i < 8) : (x : Int) / 2 ^ min (8 * (i : Int)).toNat 64 = ((x / 256 ^ i : Nat) : Int) := by
  have e1 : min (8 * (i : Int)).toNat 64 = 8 * i := by omega
  have e2 : (2 : Int) ^ (8 * i) = ((256 ^ i : Nat) : Int) := by
    rw [Int.pow_mul, show ((2 : Int) ^ 8) = ((256 : Nat) : Int) from by decide, Int.natCast_pow]
  rw [e1, e2]
  rfl
theorem low_byte (x j : Nat) : (x : Int) / 2 ^ (8 * j) % 256 = ((byteOf (x / 256 ^ j)).toNat : Int) := by
  have e2 : (2 : Int) ^ (8 * j) = ((256 ^ j : Nat) : Int) := by
    rw [Int.pow_mul, show ((2 : Int) ^ 8) = ((256 : Nat) : Int) from by decide, Int.natCast_pow]
  rw [e2, byteOf_nat]
  rfl
theorem byte_cast (x : Nat) : IntKind.u8.wrap (x : Int) = ((byteOf x).toNat : Int) := by
  rw [IntKind.wrap_u8', byteOf_nat]; omega

section
variable {w : World} {L : List HP}

end
end Go.Proofs.Ytnniipeoahpkcaa
