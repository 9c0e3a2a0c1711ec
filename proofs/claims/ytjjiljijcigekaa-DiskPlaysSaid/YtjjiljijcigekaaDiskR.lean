/- Disks: New, Versions, Platter, Read. No condition beside the sizes that it names. -/
import Derived.Test.YtjjiljijcigekaaDisk
namespace Go.Proofs.Ytjjiljijcigekaa
set_option linter.unusedVariables false
set_option linter.unusedSimpArgs false
open Go.RowKit
section
variable {w : World} {L : List HP} {db m : Nat} {s : Dsk}
def Dsk.new (n : Nat) : Dsk := ⟨n, fun _ => List.replicate 512 0, fun _ => []⟩
theorem vf_nil : vf (fun _ => []) = fun _ => (none : Option (List (List UInt8))) := by
  funext k; unfold vf; rw [if_neg]; rintro ⟨_, h⟩; exact h rfl
theorem new_dok {n : Nat} (hn : 1 ≤ n ∧ n ≤ 65536) : DOk (Dsk.new n) (List.replicate (512 * n) 0) := by
  refine ⟨hn, List.length_replicate .., fun i hi => ?_, fun _ _ => rfl, fun i r hr => absurd (show r ∈ ([] : List (List UInt8)) from hr) List.not_mem_nil⟩
  show rowAt _ i = List.replicate 512 0
  have hi : i < n := hi
  unfold rowAt
  rw [List.drop_replicate, List.take_replicate, Nat.min_eq_left (by omega)]
set_option maxHeartbeats 1000000 in
theorem new_ok {n : Nat} (hn : 1 ≤ n ∧ n ≤ 65536) (h : SatL w L) :
    Calls Try.prog 9 #[.int .i64 n] w (Ret fun r w' => ∃ db, r = .tuple #[.pointer (some ⟨db, 0, none⟩), .int .i64 0] ∧ SatL w' (DskR db (Dsk.new n) :: L)) := by
  have hmm := @run_makeMap Try.prog
  have hbv := bvs_zeros (512 * n)
  have e1 : (n : Int) * 512 = ((512 * n : Nat) : Int) := by omega
  have e2 : IntKind.i64.wrap ((n : Int) * 512) = ((512 * n : Nat) : Int) := by rw [e1]; exact IntWalk.i64_in _ (by omega)
  have hdok := hid (new_dok hn)
  obtain ⟨z, hz⟩ : ∃ z, z = 512 * n := ⟨_, rfl⟩
  rw [← hz] at hbv e1 e2
  have hzn : z ≤ 33554432 := by omega
  have Hz := hid hz
  have Hbv := hid hbv
  clear hz hbv
  go_enter Try.func9, Try.ntmps9
  go_wp2_with (refine wpList_make_sl rfl (.tmp 11) (.tmp 11) rfl elem_byte z rfl rfl h (by omega) (by omega) ?_; intro w5 hs5; rw [← Hbv.out] at hs5; have h6 := MapF_nil (F := RowsL) (hs5.alloc (.map #[] 0)); have h7 := h6.allocN (n := w5.heap.size + 1) (.cells #[.slice (some ⟨w.heap.size, 0, none⟩) z z, .map (some w5.heap.size)] 59) (by simp))
  go_ret2
  rw [← vf_nil, Hz.out] at h7
  rw [Hz.out]
  exact Ret.mk ⟨_, rfl, sat_DskR.2 ⟨_, _, _, hdok.out, h7.bring [0, 2, 1]⟩⟩
theorem has_no {p n : Int} (hr : (-9223372036854775808 ≤ p ∧ p ≤ 9223372036854775807) ∧ -9223372036854775808 ≤ n ∧ n ≤ 9223372036854775807) (h : SatL w (DskR db s :: L)) (hy : ¬ (0 ≤ p ∧ 0 < n ∧ n ≤ s.n ∧ p ≤ (s.n : Int) - n)) : Calls Try.prog 22 #[.pointer (some ⟨db, 0, none⟩), .int .i64 p, .int .i64 n] w (Ret fun r w' => r = .bool false ∧ w = w') := by
  have hbl := blocks_eq h
  have hbd : s.n ≤ 65536 := by obtain ⟨_, _, _, _, _, ok, _⟩ := DskR.form h; exact ok.bd.2
  clear h
  obtain ⟨N, hN⟩ : ∃ N : Int, N = s.n := ⟨_, rfl⟩
  rw [← hN] at hbl hy
  have hNb : 0 ≤ N ∧ N ≤ 65536 := by omega
  clear hN hbd
  by_cases g1 : 0 ≤ p
  · by_cases g2 : 0 < n
    · by_cases g3 : n ≤ N
      · have g4 : N - n < p := by omega
        have g4' : ¬ p ≤ N - n := by omega
        have g4b : decide (p ≤ N - n) = false := by simp; omega
        clear hy
        go_enter Try.func22, Try.ntmps22
        go_wp2_with (first | (go_at_call 33; (with_reducible refine hbl.mono ?_); rintro e w' ⟨v, rfl, rfl, rfl⟩))
        go_ret
        exact Ret.mk ⟨rfl, rfl⟩
      · have g3' : N < n := by omega
        clear hy
        go_enter Try.func22, Try.ntmps22
        go_wp2_with (first | (go_at_call 33; (with_reducible refine hbl.mono ?_); rintro e w' ⟨v, rfl, rfl, rfl⟩))
        go_ret
        exact Ret.mk ⟨rfl, rfl⟩
    · have g2' : n ≤ 0 := by omega
      clear hy
      go_enter Try.func22, Try.ntmps22
      go_wp2_with (first | (go_at_call 33; (with_reducible refine hbl.mono ?_); rintro e w' ⟨v, rfl, rfl, rfl⟩))
      go_ret
      exact Ret.mk ⟨rfl, rfl⟩
  · have g1' : p < 0 := by omega
    clear hy
    go_enter Try.func22, Try.ntmps22
    go_wp2_with (first | (go_at_call 33; (with_reducible refine hbl.mono ?_); rintro e w' ⟨v, rfl, rfl, rfl⟩))
    go_ret
    exact Ret.mk ⟨rfl, rfl⟩
theorem stays_eq {b off c n i : Nat} (hi : i < n) (hn : n ≤ 65536) (hc : 512 * n ≤ c ∧ c ≤ 9223372036854775807) (c0 : w.cell? ⟨db, 0, none⟩ = some (.slice (some ⟨b, off, none⟩) (512 * n) c)) :
    Calls Try.prog 25 #[.pointer (some ⟨db, 0, none⟩), .int .i64 i] w (Ret fun r w' => r = .slice (some ⟨b, off + 512 * i, none⟩) 512 (c - 512 * i) ∧ w = w') := by
  obtain ⟨x, hx⟩ : ∃ x, x = 512 * i := ⟨_, rfl⟩
  obtain ⟨z, hz⟩ : ∃ z, z = 512 * n := ⟨_, rfl⟩
  have e1 : IntKind.i64.wrap ((i : Int) * 512) = (x : Int) := by rw [show (i : Int) * 512 = (x : Int) by omega]; exact IntWalk.i64_in _ (by omega)
  have e2 : IntKind.i64.wrap ((x : Int) + 512) = ((x + 512 : Nat) : Int) := by rw [show (x : Int) + 512 = ((x + 512 : Nat) : Int) by omega]; exact IntWalk.i64_in _ (by omega)
  rw [← hz] at c0
  rw [← hx]
  have g1 : x + 512 ≤ z := by omega
  have g2 : z ≤ c := by omega
  have g3 : (x : Int) * 1 = x := by omega
  clear hx hz hc
  go_enter Try.func25, Try.ntmps25
  go_wp2
  go_ret
  refine Ret.mk ⟨?_, rfl⟩
  simp
  done
end
end Go.Proofs.Ytjjiljijcigekaa
