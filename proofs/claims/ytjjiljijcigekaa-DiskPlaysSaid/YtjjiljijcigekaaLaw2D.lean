/- row, sameInts of chapter 2's statements; the refused ways out of a disk and of the document's disk. No condition beside the sizes that each names. -/
import Derived.Test.YtjjiljijcigekaaLaw2B
import Derived.Test.YtjjiljijcigekaaLaw2C
import Derived.Test.YtjjiljijcigekaaRefDiskW
namespace Go.Proofs.Ytjjiljijcigekaa
set_option linter.unusedVariables false
set_option linter.unusedSimpArgs false
open Go.RowKit
/-- so many blocks, or no whole one -/
def rowL (b : Nat) (N : Int) : List UInt8 := if N < 0 then List.replicate 100 0 else rowB b (min N.toNat 20)
theorem rowL_neg {b : Nat} {N : Int} (h : N < 0) : rowL b N = List.replicate 100 0 := if_pos h
theorem rowL_pos {b : Nat} {n : Nat} : rowL b (n : Int) = rowB b (min n 20) := by unfold rowL; rw [if_neg (by omega), Int.toNat_natCast]
theorem sat_drewNat {w : World} {L : List HP} {n : Nat} : SatL (w.drewN n) L ↔ SatL w L := Iff.rfl
section
variable {w : World} {L : List HP} {db xb : Nat} {s : Dsk}
set_option maxRecDepth 100000 in
set_option maxHeartbeats 1000000 in
theorem row20_ok {b n : Nat} (hb : b < 256) (hn : 20 ≤ n ∧ n ≤ 9223372036854775807) (h : SatL w L) :
    Calls Try.prog 15 #[.int .u8 b, .int .i64 n] w (Ret fun r w' => SatL w' (SlB 5 r (rowB b 20) :: L)) := by
  go_enter Try.func15, Try.ntmps15
  go_wp2
  go_loopw [5, 6] (fun out i wr => ∃ j : Nat, j ≤ 20 ∧ i = .int .i64 j ∧ SatL wr (SlB 5 out (rowB b j) :: L)) (fun _ i _ => 20 - (intOf i).toNat)
  case atStart => exact ⟨0, by omega, rfl, Sl_nil h⟩
  case round =>
    clear h
    obtain ⟨j, hj, rfl, hs⟩ := hrel
    obtain ⟨oa, oc, rfl, o1, o2⟩ := SlB.valn hs
    by_cases hlt : j < 20
    · have hl := rowB_len b j
      have hsn := hid (rowB_snoc b j)
      have e1 : IntKind.u8.wrap (j : Int) = (j : Int) := by rw [IntKind.wrap_u8']; omega
      have e2 : IntKind.u8.wrap ((b : Int) + (j : Int)) = (((b + j) % 256 : Nat) : Int) := by rw [IntKind.wrap_u8']; omega
      have hbl := block_ok (b := (b + j) % 256) (by omega) hs
      have b2 : ((rowB b j).length + 512) * 1 ≤ 140737488355328 := by omega
      have b3 : (rowB b j).length + 512 ≤ maxLen := by unfold maxLen; omega
      have hj20 : (j : Int) < 20 := by omega
      have hjn : j < n := by omega
      clear hl hs
      generalize (b + j) % 256 = z at *
      generalize rowB b j = rj at *
      go_wp2_with (first
        | (go_at_call 12; (with_reducible refine hbl.mono ?_); rintro e w2 ⟨v, rfl, va, vc, rfl, v1, h2⟩; have hsrc := SrcOk.ofRdB (SlB.rd h2); rw [blkN_len] at hsrc; have hK := Sl.toK (SatL.pull h2 1 : SatL w2 (SlB _ _ rj :: _)) (bvs_len rj))
        | (at_builtin; refine wpList_append_sl rfl (.tmp 19) (.tmp 24) rfl elem_byte rfl hK rfl hsrc (bvs_one _) b2 b3 ?_; intro v9 w9 h9 _))
      go_roundw
      case rel => exact ⟨j + 1, by omega, by go_num, by rw [hsn.out]; exact SlB.app (Sl.ofK (SatL.tail (SatL.swap h9)))⟩
      case measure => simp [intOf]; omega
    · obtain ⟨q, hq⟩ : ∃ q : Nat, q = j := ⟨_, rfl⟩
      have hj20 : ¬ (j : Int) < 20 := by omega
      have hs' := fun (v : Value) (h : SatL wr (SlB 5 v (rowB b j) :: L)) => (by rw [show (20 : Nat) = j by omega]; exact h : SatL wr (SlB 5 v (rowB b 20) :: L))
      by_cases hjn : j < n
      · go_wp2
        go_ret
        exact Ret.mk (hs' _ hs)
      · go_wp2
        go_ret
        exact Ret.mk (hs' _ hs)
set_option maxRecDepth 100000 in
set_option maxHeartbeats 1000000 in
theorem rowneg_ok {b : Nat} {N : Int} (hN : N < 0) (h : SatL w L) :
    Calls Try.prog 15 #[.int .u8 b, .int .i64 N] w (Ret fun r w' => SatL w' (SlB 5 r (List.replicate 100 0) :: L)) := by
  have hbv := hid (bvs_zeros 100)
  go_enter Try.func15, Try.ntmps15
  go_wp2_with (refine wpList_make_sl rfl (.const (.int .i64 100)) (.const (.int .i64 100)) rfl elem_byte 100 rfl rfl h (by omega) (by omega) ?_; intro w5 hs5; rw [← hbv.out] at hs5)
  go_ret
  exact Ret.mk hs5
theorem rowx_ok {b : Nat} {N : Int} (hb : b < 256) (hN : N ≤ 9223372036854775807) (h : SatL w L) :
    Calls Try.prog 15 #[.int .u8 b, .int .i64 N] w (Ret fun r w' => SatL w' (SlB 5 r (rowL b N) :: L)) := by
  by_cases h0 : N < 0
  · rw [rowL_neg h0]; exact rowneg_ok h0 h
  · obtain ⟨n, rfl⟩ := Int.eq_ofNat_of_zero_le (show 0 ≤ N by omega)
    rw [rowL_pos]
    by_cases h2 : n ≤ 20
    · rw [Nat.min_eq_left h2]; exact row_ok hb h2 h
    · rw [Nat.min_eq_right (by omega)]; exact row20_ok hb ⟨by omega, by omega⟩ h
set_option maxRecDepth 100000 in
set_option maxHeartbeats 1000000 in
theorem sameints_ok {a b : Option Addr} {n c d : Nat} {Z : Nat → Int} (h : SatL w L) (ga : Gives L (fun w' => IsRow w' 1 a n (fun i => [.int .i64 (Z i)]))) (gb : Gives L (fun w' => IsRow w' 1 b n (fun i => [.int .i64 (Z i)]))) :
    Calls Try.prog 30 #[.slice a n c, .slice b n d] w (Ret fun r w' => r = .bool true ∧ SatL w' L) := by
  have hnz : n ≤ 9223372036854775807 := (ga w h).1
  have Ga := hid ga
  have Gb := hid gb
  clear ga gb
  go_enter Try.func30, Try.ntmps30
  go_wp2
  go_loopw [5] (fun i wr => ∃ j : Nat, j ≤ n ∧ i = .int .i64 j ∧ SatL wr L) (fun i _ => n - (intOf i).toNat)
  case atStart => exact ⟨0, by omega, rfl, h⟩
  case round =>
    clear h
    obtain ⟨j, hj, rfl, hs⟩ := hrel
    by_cases hlt : j < n
    · have hjz : (j : Int) < (n : Int) := by omega
      obtain ⟨pa, oa, rfl, xa⟩ := (Ga.out wr hs).2 (by omega)
      obtain ⟨pb, ob, rfl, xb⟩ := (Gb.out wr hs).2 (by omega)
      have ca : wr.cell? ⟨pa, oa + j, none⟩ = some (.int .i64 (Z j)) := by have := (xa j hlt).2 0 _ rfl; rwa [Nat.mul_one, Nat.add_zero] at this
      have cb : wr.cell? ⟨pb, ob + j, none⟩ = some (.int .i64 (Z j)) := by have := (xb j hlt).2 0 _ rfl; rwa [Nat.mul_one, Nat.add_zero] at this
      clear xa xb
      generalize Z j = z at *
      go_wp2
      go_quiet (fail)
      go_wp2
      go_roundw
      case rel => exact ⟨j + 1, by omega, by go_num, sat_drewNat.2 hs⟩
      case measure => simp [intOf]; omega
    · obtain rfl : j = n := by omega
      go_wp2
      go_ret
      exact Ret.mk ⟨rfl, hs⟩
end
end Go.Proofs.Ytjjiljijcigekaa
