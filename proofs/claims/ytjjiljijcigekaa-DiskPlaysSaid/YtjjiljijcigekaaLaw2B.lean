/- row of chapter 2's statements; a block at a time. No condition beside the sizes that each names. -/
import Derived.Test.YtjjiljijcigekaaLaw2A
import Derived.Test.YtjjiljijcigekaaDiskC
import Derived.Test.YtjjiljijcigekaaDiskW
namespace Go.Proofs.Ytjjiljijcigekaa
set_option linter.unusedVariables false
set_option linter.unusedSimpArgs false
open Go.RowKit
/-- one block is written -/
def Dsk.put (s : Dsk) (i : Nat) (r : List UInt8) : Dsk := { s with V := fun j => if j = i then s.V i ++ [r] else s.V j }
theorem rowAt_one {b : List UInt8} (h : b.length = 512) : rowAt b 0 = b := by unfold rowAt; rw [Nat.mul_zero, List.drop_zero]; exact List.take_of_length_le (by omega)
theorem wr_one (s : Dsk) (p : Nat) {bs : List UInt8} (h : bs.length = 512) : s.wr p bs 1 = s.put p bs := by
  have h1 := wr_succ s p bs 0
  rw [Nat.add_zero, wr_zero, rowAt_one h] at h1
  unfold Dsk.put
  rw [h1]; rfl
section
variable {w : World} {L : List HP} {db : Nat} {s : Dsk}
theorem write1_ok {p vn vc : Nat} {va : Option Addr} {bs : List UInt8} (hb : bs.length = 512) (hp : p < s.n) (hV : ∀ i, (s.V i).length ≤ 100000) (h : SatL w (DskR db s :: L)) (g : Gives L (RdB (.slice va vn vc) bs)) :
    Calls Try.prog 10 #[.pointer (some ⟨db, 0, none⟩), .int .i64 p, .slice va vn vc] w (Ret fun r w' => r = .int .i64 0 ∧ SatL w' (DskR db (s.put p bs) :: L)) := by
  rw [← wr_one s p hb]
  exact write_ok (n := 1) (by omega) (by omega) (by omega) (by omega) hV h g
set_option maxRecDepth 100000 in
set_option maxHeartbeats 1000000 in
theorem row_ok {b n : Nat} (hb : b < 256) (hn : n ≤ 20) (h : SatL w L) :
    Calls Try.prog 15 #[.int .u8 b, .int .i64 n] w (Ret fun r w' => SatL w' (SlB 5 r (rowB b n) :: L)) := by
  go_enter Try.func15, Try.ntmps15
  go_wp2
  go_loopw [5, 6] (fun out i wr => ∃ j : Nat, j ≤ n ∧ i = .int .i64 j ∧ SatL wr (SlB 5 out (rowB b j) :: L)) (fun _ i _ => n - (intOf i).toNat)
  case atStart => exact ⟨0, by omega, rfl, Sl_nil h⟩
  case round =>
    clear h
    obtain ⟨j, hj, rfl, hs⟩ := hrel
    obtain ⟨oa, oc, rfl, o1, o2⟩ := SlB.valn hs
    by_cases hlt : j < n
    · have hl := rowB_len b j
      have hsn := hid (rowB_snoc b j)
      have e1 : IntKind.u8.wrap (j : Int) = (j : Int) := by rw [IntKind.wrap_u8']; omega
      have e2 : IntKind.u8.wrap ((b : Int) + (j : Int)) = (((b + j) % 256 : Nat) : Int) := by rw [IntKind.wrap_u8']; omega
      have hbl := block_ok (b := (b + j) % 256) (by omega) hs
      have b2 : ((rowB b j).length + 512) * 1 ≤ 140737488355328 := by omega
      have b3 : (rowB b j).length + 512 ≤ maxLen := by unfold maxLen; omega
      have hj20 : (j : Int) < 20 := by omega
      clear hl hs
      generalize (b + j) % 256 = z at *
      generalize rowB b j = rj at *
      go_wp2_with (first
        | (go_at_call 12; (with_reducible refine hbl.mono ?_); rintro e w2 ⟨v, rfl, va, vc, rfl, v1, h2⟩; have hsrc := SrcOk.ofRdB (SlB.rd h2); rw [blkN_len] at hsrc; have hK := Sl.toK (SatL.pull h2 1 : SatL w2 (SlB _ _ rj :: _)) (bvs_len rj))
        | (at_builtin; refine wpList_append_sl rfl (.tmp 19) (.tmp 24) rfl elem_byte rfl hK rfl hsrc (bvs_one _) b2 b3 ?_; intro v9 w9 h9 _))
      go_roundw
      case rel => exact ⟨j + 1, by omega, by go_num, by rw [hsn.out]; exact SlB.app (Sl.ofK (SatL.tail (SatL.swap h9)))⟩
      case measure => simp [intOf]; omega
    · obtain rfl : j = n := by omega
      go_wp2
      go_ret
      exact Ret.mk hs
end
end Go.Proofs.Ytjjiljijcigekaa
