/- What chapter 2's statements lay: block, row, within. No condition beside the sizes that each names. -/
import Derived.Test.YtjjiljijcigekaaRd
import Derived.Test.YtjjiljijcigekaaArg
import Derived.Deep.QuietTactic
import Derived.BigQuiet
import Derived.Deep.Cut
import Derived.Deep.CutRange
import Derived.Deep.CutBlock
namespace Go.Proofs.Ytjjiljijcigekaa
set_option linter.unusedVariables false
set_option linter.unusedSimpArgs false
open Go.RowKit

def blkN (n b : Nat) : List UInt8 := (List.range n).map fun i => byteOf (b + i)
theorem blkN_len (n b : Nat) : (blkN n b).length = n := by simp [blkN]
abbrev blockB (b : Nat) : List UInt8 := blkN 512 b
def blkTo (n b j : Nat) : List UInt8 := (List.range n).map fun i => if i < j then byteOf (b + i) else 0
theorem blkTo_len (n b j : Nat) : (blkTo n b j).length = n := by simp [blkTo]
theorem blkTo_zero (n b : Nat) : bvs (blkTo n b 0) = List.replicate n (.int .u8 0) := by
  apply List.ext_getElem?
  intro i
  by_cases hi : i < n
  · simp [blkTo, hi]
  · rw [List.getElem?_eq_none (by rw [bvs_len, blkTo_len]; omega), List.getElem?_eq_none (by simp; omega)]
theorem blkTo_full (n b : Nat) : blkTo n b n = blkN n b := by
  unfold blkTo blkN
  apply List.map_congr_left
  intro i hi
  rw [if_pos (List.mem_range.1 hi)]
theorem blkTo_set {n b j : Nat} (hj : j < n) : (bvs (blkTo n b j)).set j (bv (byteOf (b + j))) = bvs (blkTo n b (j + 1)) := by
  rw [← List.map_set]
  congr 1
  apply List.ext_getElem?
  intro i
  rw [List.getElem?_set]
  by_cases hi : i < n
  · by_cases hij : j = i
    · subst hij
      rw [if_pos rfl, if_pos (by rw [blkTo_len]; exact hj)]
      simp [blkTo, hi]
    · rw [if_neg hij]
      simp only [blkTo, List.getElem?_map, List.getElem?_range hi, Option.map_some]
      by_cases h1 : i < j
      · rw [if_pos h1, if_pos (by omega)]
      · rw [if_neg h1, if_neg (by omega)]
  · rw [List.getElem?_eq_none (by rw [blkTo_len]; omega), List.getElem?_eq_none (by rw [blkTo_len]; omega), if_neg (by omega)]
/-- blocks that follow one another -/
def rowB (b n : Nat) : List UInt8 := ((List.range n).map fun i => blockB ((b + i) % 256)).flatten
theorem rowB_snoc (b n : Nat) : rowB b (n + 1) = rowB b n ++ blockB ((b + n) % 256) := by
  unfold rowB; rw [List.range_succ, List.map_append, List.flatten_append]; simp
theorem rowB_len (b : Nat) : ∀ n, (rowB b n).length = 512 * n
  | 0 => rfl
  | n + 1 => by rw [rowB_snoc, List.length_append, rowB_len b n, blkN_len]; omega
def wi (a : Int) (n : Nat) : Nat := (a % (n : Int)).toNat
theorem wi_lt (a : Int) {n : Nat} (hn : 0 < n) : wi a n < n := by
  unfold wi
  have h1 := Int.emod_nonneg a (show (n : Int) ≠ 0 by omega)
  have h2 := Int.emod_lt_of_pos a (show 0 < (n : Int) by omega)
  omega
section
variable {w : World} {L : List HP}
theorem within_ok (a : Int) {n : Nat} (hn : 0 < n ∧ n ≤ 1000000) (w : World) : Calls Try.prog 11 #[.int .i64 a, .int .i64 n] w (Ret fun r w' => r = .int .i64 (wi a n : Nat) ∧ w = w') := by
  have h1 := Int.tmod_lt_of_pos a (show 0 < (n : Int) by omega)
  have h2 := Int.lt_tmod_of_pos a (show 0 < (n : Int) by omega)
  have h3 : ((wi a n : Nat) : Int) = a % n := by
    unfold wi
    have := Int.emod_nonneg a (show (n : Int) ≠ 0 by omega)
    omega
  have hz : ¬ (n : Int) = 0 := by omega
  rw [h3]
  have h4 : a % n = if a.tmod n < 0 then a.tmod n + n else a.tmod n := by
    have e := Int.tmod_def a n
    split
    · rename_i hneg
      have : a % n = (a.tmod n + n) % n := by rw [Int.add_emod_right, e, Int.sub_mul_emod_self_left]
      rw [this, Int.emod_eq_of_lt (by omega) (by omega)]
    · rename_i hneg
      have : a % n = (a.tmod n) % n := by rw [e, Int.sub_mul_emod_self_left]
      rw [this, Int.emod_eq_of_lt (by omega) (by omega)]
  by_cases hneg : a.tmod n < 0
  · rw [if_pos hneg] at h4
    have Hq := hid h4
    clear h4 h3
    go_enter Try.func11, Try.ntmps11
    go_wp2
    go_ret
    exact Ret.mk ⟨by rw [Hq.out]; rfl, rfl⟩
  · rw [if_neg hneg] at h4
    have Hq := hid h4
    clear h4 h3
    go_enter Try.func11, Try.ntmps11
    go_wp2
    go_ret
    exact Ret.mk ⟨by rw [Hq.out]; rfl, rfl⟩
set_option maxRecDepth 100000 in
set_option maxHeartbeats 1000000 in
theorem block_ok {b : Nat} (hb : b < 256) (h : SatL w L) :
    Calls Try.prog 12 #[.int .u8 b] w (Ret fun r w' => ∃ a c, r = .slice a 512 c ∧ 512 ≤ c ∧ SatL w' (SlB 5 r (blockB b) :: L)) := by
  obtain ⟨n, hn⟩ : ∃ n, n = 512 := ⟨_, rfl⟩
  have Hn := hid hn
  have hz := blkTo_zero 512 b
  have Hz := hid hz
  clear hz
  go_enter Try.func12, Try.ntmps12
  go_upto_block 0 with (refine wpList_make_sl rfl (.const (.int .i64 512)) (.const (.int .i64 512)) rfl elem_byte 512 rfl rfl h (by omega) (by omega) ?_; intro w5 hs5; rw [← Hz.out] at hs5)
  generalize w.heap.size = nb at *
  clear h
  go_wp2
  go_loopw [4] (fun i wr => ∃ j : Nat, j ≤ 512 ∧ i = .int .i64 j ∧ SatL wr (SlB 5 (.slice (some ⟨nb, 0, none⟩) 512 512) (blkTo 512 b j) :: L)) (fun i _ => 512 - (intOf i).toNat)
  case atStart => exact ⟨0, by omega, rfl, hs5⟩
  case round =>
    clear hs5
    obtain ⟨j, hj, rfl, hs⟩ := hrel
    by_cases hlt : j < 512
    · have cj := SlB.cell hs (i := j) (by rw [blkTo_len]; exact hlt)
      rw [Nat.zero_add] at cj
      have fj := Sl.free hs j
      have hset := fun (x : Value) => Sl.set hs (i := j) (by rw [bvs_len, blkTo_len]; exact hlt) x
      simp only [Nat.zero_add] at hset
      have hst := blkTo_set (b := b) hlt
      have e1 : IntKind.u8.wrap (j : Int) = ((j % 256 : Nat) : Int) := by rw [IntKind.wrap_u8']; omega
      have hbv : bv (byteOf (b + j)) = .int .u8 (((b + j) % 256 : Nat) : Int) := by rw [bv, byteOf_nat]
      have e2 : IntKind.u8.wrap ((b : Int) + ((j % 256 : Nat) : Int)) = (((b + j) % 256 : Nat) : Int) := by rw [IntKind.wrap_u8']; omega
      rw [hbv] at hst
      generalize j % 256 = y at *
      generalize (b + j) % 256 = z at *
      generalize ((blkTo 512 b j).getD j 0).toNat = x0 at *
      have Hset := hid hset
      have Hst := hid hst
      clear hst hset hbv
      go_wp2
      have h8 := Hset.out (.int .u8 z)
      rw [Hst.out] at h8
      go_roundw
      case rel => exact ⟨j + 1, by omega, by go_num, h8⟩
      case measure => simp [intOf]; omega
    · have hjj : j = 512 := by omega
      have hbf : blkTo 512 b j = blkN 512 b := by rw [hjj]; exact blkTo_full 512 b
      rw [hbf] at hs
      have hjz : ¬ (j : Int) < 512 := by omega
      clear hjj hbf
      go_wp2
      go_ret
      exact Ret.mk ⟨_, _, rfl, Nat.le_refl _, hs⟩
end
end Go.Proofs.Ytjjiljijcigekaa
