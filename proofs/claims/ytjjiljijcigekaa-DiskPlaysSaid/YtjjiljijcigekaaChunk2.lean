/- slices.Collect(slices.Chunk(b, 512)) of bytes. No condition beside the size. -/
import Derived.Test.YtjjiljijcigekaaSeq
import Derived.Test.YtjjiljijcigekaaRd
import Derived.RangeFuncIn
import Derived.RegionIn
import Derived.BigRegionIn
namespace Go.Proofs.Ytjjiljijcigekaa
set_option linter.unusedVariables false
set_option linter.unusedSimpArgs false
open Go.RowKit
attribute [local go_sem] Oper.semAt_some

abbrev chunkV (b off i : Nat) : Value := .slice (some ⟨b, off + 512 * i, none⟩) 512 512
section
variable {w : World} {L : List HP}

theorem chunk_ok (a : Option Addr) (n c : Nat) (w : World) : Calls Try.prog 23 #[.slice a n c, .int .i64 512] w fun e w' => e = .returned (.func (.func 37) #[] #[.pointer (some ⟨w.heap.size, 0, none⟩), .pointer (some ⟨w.heap.size + 1, 0, none⟩)]) ∧ w' = (w.alloc (.cells #[.slice a n c] 33)).alloc (.cells #[.int .i64 512] 3) := by
  go_enter Try.func23, Try.ntmps23
  go_wp2
  go_ret
  exact ⟨rfl, rfl⟩

set_option maxRecDepth 100000 in
set_option maxHeartbeats 2000000 in
theorem chunk_seq {b off n c m b1 b2 : Nat} (hm : n = 512 * m) (hn : n ≤ 1000000) (hc : n ≤ c) (hc2 : c ≤ 9223372036854775807) :
    SeqSl Fence.wide 5 Try.prog 37 #[.pointer (some ⟨b1, 0, none⟩), .pointer (some ⟨b2, 0, none⟩)] (fun i : Nat => #[chunkV b off i]) (List.range m)
      [cl b1 33 #[.slice (some ⟨b, off, none⟩) n c], cl b2 3 #[.int .i64 512]] := by
  intro l A W h hY
  refine callsIn_of_wp Try.func37 rfl trivial ?_ rfl
  simp only [Try.ntmps37, List.size_toArray, List.length_cons, List.length_nil, Nat.reduceAdd, Nat.reduceSub, Array.replicate_succ, Array.replicate_zero, List.push_toArray, List.append_toArray, List.nil_append, List.cons_append]
  gi_wp2
  gi_loopw [4] (fun i wr => ∃ k : Nat, k ≤ m ∧ i = .int .i64 (512 * k) ∧ SatL wr ([cl b1 33 #[.slice (some ⟨b, off, none⟩) n c], cl b2 3 #[.int .i64 512]] ++ A (List.range k))) (fun i _ => n - (intOf i).toNat)
  case atStart => exact ⟨0, by omega, rfl, h⟩
  case round =>
    clear h
    obtain ⟨k, hk, rfl, hs⟩ := hrel
    have s1 := SatL.cell (v := .slice (some ⟨b, off, none⟩) n c) (hs : SatL wr (cl b1 _ _ :: _)) (i := 0) rfl
    have s2 := SatL.cell (v := .int .i64 512) (SatL.pull hs 1 : SatL wr (cl b2 _ _ :: _)) (i := 0) rfl
    by_cases hlt : k < m
    · subst hm
      obtain ⟨fn, tmps, assign, body, hy, hR⟩ := hY (List.range k) k wr.drew (by rw [← List.range_succ]; exact List.prefix_iff_eq_take.2 (by rw [List.take_range, Nat.min_eq_left (by rw [List.length_range]; omega), List.length_range])) (sat_drew.2 hs)
      have i1 : (512 : Int) * (k : Int) < 512 * (m : Int) := by omega
      have i2 : (0 : Int) ≤ 512 * (k : Int) := by omega
      obtain ⟨x, hx⟩ : ∃ x : Nat, x = 512 * k := ⟨_, rfl⟩
      have hx2 : (512 : Int) * (k : Int) = (x : Int) := by omega
      have hxn : x + 512 ≤ 512 * m := by omega
      rw [chunkV, ← hx] at hy
      rw [hx2]
      rw [hx2] at i1 i2
      have i3 : (x : Int) < ((512 * m : Nat) : Int) := by omega
      clear i1 hx2
      have Hx := hid hx
      clear hx
      generalize 512 * m = n at *
      have e1 : min (512 : Int) ((n : Int) - (x : Int)) = 512 := by omega
      gi_wp2
      gi_region
      gi_wp2
      refine hR.mono ?_
      rintro e W3 ⟨rfl, hs3⟩
      rw [← List.range_succ] at hs3
      have s3 := SatL.cell (v := .int .i64 512) (SatL.pull hs3 1 : SatL W3 (cl b2 _ _ :: _)) (i := 0) rfl
      gi_wp2
      go_roundw
      case rel => exact ⟨k + 1, by omega, congrArg (Value.int .i64) (by have := Hx.out; omega), hs3⟩
      case measure => have := Hx.out; simp [intOf]; omega
    · obtain rfl : k = m := by omega
      subst hm
      have i1 : ¬ ((512 : Int) * (k : Int) < ((512 * k : Nat) : Int)) := by omega
      gi_wp2
      go_end0
      exact ⟨⟨_, rfl⟩, hs⟩
end
end Go.Proofs.Ytjjiljijcigekaa
