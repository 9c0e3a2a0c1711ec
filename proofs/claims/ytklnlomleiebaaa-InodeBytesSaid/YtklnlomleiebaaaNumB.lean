/- fits, PutLe, Crc of the program; Low, Noughts, Crc of the document's. -/
import Derived.Test.YtklnlomleiebaaaNum
import Derived.Laws.ShiftsVarLaws
namespace Go.Proofs.Ytklnlomleiebaaa
set_option linter.unusedVariables false
set_option linter.unusedSimpArgs false
open Go.RowKit

theorem RdU.at {w : World} {a : Option Addr} {n c : Nat} {l : List Nat} (h : RdU (.slice a n c) l w) (hl : 0 < l.length) : n = l.length ∧ n ≤ c ∧ c ≤ 9223372036854775807 ∧ ∃ b off, a = some ⟨b, off, none⟩ ∧ ∀ i, i < l.length → w.cell? ⟨b, off + i, none⟩ = some (.int .u64 ((l.getD i 0 : Nat) : Int)) := by
  rcases h with ⟨_, rfl⟩ | ⟨b, off, c, h0, h1, h2, h3⟩
  · simp at hl
  · cases h0; exact ⟨rfl, h1, h2, b, off, rfl, h3⟩
theorem RdU.valn {w : World} {v : Value} {l : List Nat} (h : RdU v l w) : ∃ a c, v = .slice a l.length c ∧ l.length ≤ c ∧ c ≤ 9223372036854775807 := by
  rcases h with ⟨rfl, rfl⟩ | ⟨b, off, c, rfl, h1, h2, _⟩
  · exact ⟨none, 0, rfl, by simp, by omega⟩
  · exact ⟨_, c, rfl, h1, h2⟩
theorem SrcOk.ofRdB {w : World} {v : Value} {l : List UInt8} (h : RdB v l w) : SrcOk Try.prog 42 1 w v l.length (bvs l) := by
  refine ⟨by simp, ?_⟩
  rcases h with ⟨rfl, rfl⟩ | ⟨b, off, c, rfl, h1, h2, h3⟩
  · exact .inl ⟨rfl, rfl, 5, by kernel_rfl⟩
  · refine .inr (.inl ⟨_, _, rfl, ⟨5, by kernel_rfl⟩, fun j y hy => ?_⟩)
    rw [addr_add]
    have hj : j < l.length := by have := (List.getElem?_eq_some_iff.1 hy).1; simpa using this
    rw [h3 j hj, ← hy]
    rw [List.getElem?_map, List.getElem?_eq_getElem hj]
    simp [List.getD, hj]
theorem elem_byte : ElemOk Try.prog 42 5 1 1 [Value.int .u8 0] := .of (z := .int .u8 0) (by kernel_rfl) (by kernel_rfl) rfl rfl (by decide) (by simp [Value.oneCell'])

theorem shr_at (x i : Nat) (hi : i < 8) : (x : Int) / 2 ^ min (8 * (i : Int)).toNat 64 = ((x / 256 ^ i : Nat) : Int) := by
  have e1 : min (8 * (i : Int)).toNat 64 = 8 * i := by omega
  have e2 : (2 : Int) ^ (8 * i) = ((256 ^ i : Nat) : Int) := by
    rw [Int.pow_mul, show ((2 : Int) ^ 8) = ((256 : Nat) : Int) from by decide, Int.natCast_pow]
  rw [e1, e2]
  rfl
theorem low_byte (x j : Nat) : (x : Int) / 2 ^ (8 * j) % 256 = ((byteOf (x / 256 ^ j)).toNat : Int) := by
  have e2 : (2 : Int) ^ (8 * j) = ((256 ^ j : Nat) : Int) := by
    rw [Int.pow_mul, show ((2 : Int) ^ 8) = ((256 : Nat) : Int) from by decide, Int.natCast_pow]
  rw [e2, byteOf_nat]
  rfl
theorem byte_cast (x : Nat) : IntKind.u8.wrap (x : Int) = ((byteOf x).toNat : Int) := by
  rw [IntKind.wrap_u8', byteOf_nat]; omega

section
variable {w : World} {L : List HP}

theorem low_ok {v : Value} {bs : List UInt8} {k x : Nat} (hk : k ≤ 8) (hx : x < 18446744073709551616) (hb : bs.length ≤ 1000000000) (h : SatL w (SlB 5 v bs :: L)) :
    Calls Try.prog 46 #[v, .int .i64 k, .int .u64 x] w (Ret fun v' w' => SatL w' (SlB 5 v' (bs ++ lowb k x) :: L)) := by
  obtain ⟨a, c, rfl, g1, g2⟩ := SlB.valn h
  go_enter Try.func46, Try.ntmps46
  go_wp2
  go_loopw [0, 7] (fun out i wr => ∃ j : Nat, j ≤ k ∧ i = .int .i64 j ∧ SatL wr (SlB 5 out (bs ++ lowb j x) :: L)) (fun _ i _ => k - (intOf i).toNat)
  case atStart => exact ⟨0, by omega, rfl, by simpa [lowb] using h⟩
  case round =>
    obtain ⟨j, hj, rfl, hs⟩ := hrel
    by_cases hlt : j < k
    · have b1 : ((bvs (bs ++ lowb j x)).length + 1) * 1 ≤ 140737488355328 := by simp [lowb_len]; omega
      have b8 : 0 < 1 := by omega
      have e1 := shr_at x j (by omega)
      have hsn := hid (lowb_snoc j x)
      go_wp2_with (at_builtin; refine wpList_push_sl rfl (.tmp 13) (.tmp 19) rfl elem_byte b8 rfl hs rfl rfl b1 ?_; intro v' w6 h6)
      go_roundw
      case rel =>
        rw [low_byte] at h6
        refine ⟨j + 1, by omega, by go_num, ?_⟩
        rw [hsn.out, ← List.append_assoc]
        exact SlB.snoc h6
      case measure => simp [intOf]; omega
    · obtain rfl : j = k := by omega
      go_wp2
      go_ret
      exact Ret.mk hs

theorem noughts_ok {v : Value} {bs : List UInt8} {n : Int} (hn : n ≤ 1000000000) (hb : bs.length ≤ 1000000000) (h : SatL w (SlB 5 v bs :: L)) :
    Calls Try.prog 40 #[v, .int .i64 n] w (Ret fun v' w' => SatL w' (SlB 5 v' (bs ++ List.replicate n.toNat 0) :: L)) := by
  obtain ⟨a, c, rfl, g1, g2⟩ := SlB.valn h
  go_enter Try.func40, Try.ntmps40
  go_wp2
  go_loopw [0, 5] (fun out i wr => ∃ j : Nat, j ≤ n.toNat ∧ i = .int .i64 j ∧ SatL wr (SlB 5 out (bs ++ List.replicate j 0) :: L)) (fun _ i _ => n.toNat - (intOf i).toNat)
  case atStart => exact ⟨0, by omega, rfl, by simpa using h⟩
  case round =>
    obtain ⟨j, hj, rfl, hs⟩ := hrel
    by_cases hlt : (j : Int) < n
    · have b1 : ((bvs (bs ++ List.replicate j 0)).length + 1) * 1 ≤ 140737488355328 := by simp; omega
      have b8 : 0 < 1 := by omega
      go_wp2_with (at_builtin; refine wpList_push_sl rfl (.tmp 11) (.tmp 12) rfl elem_byte b8 rfl hs rfl rfl b1 ?_; intro v' w6 h6)
      go_roundw
      case rel =>
        refine ⟨j + 1, by omega, by go_num, ?_⟩
        rw [List.replicate_succ', ← List.append_assoc]
        exact SlB.snoc h6
      case measure => simp [intOf]; omega
    · have hjn : j = n.toNat := by omega
      subst hjn
      go_wp2
      go_ret
      exact Ret.mk hs
end
end Go.Proofs.Ytklnlomleiebaaa
