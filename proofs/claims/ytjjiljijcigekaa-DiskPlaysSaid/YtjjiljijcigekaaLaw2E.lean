/- The refused ways out of a disk and of the document's disk. No condition beside the sizes that each names. -/
import Derived.Test.YtjjiljijcigekaaLaw2D
namespace Go.Proofs.Ytjjiljijcigekaa
set_option linter.unusedVariables false
set_option linter.unusedSimpArgs false
open Go.RowKit
abbrev I64 (z : Int) : Prop := -9223372036854775808 ≤ z ∧ z ≤ 9223372036854775807
theorem RDsk.n_cell {w : World} {L : List HP} {xb : Nat} {s : Dsk} (h : SatL w (RDsk xb s :: L)) : w.cell? ⟨xb, 0, none⟩ = some (.int .i64 s.n) ∧ 1 ≤ s.n ∧ s.n ≤ 65536 := by
  obtain ⟨lv, bs, ok, h1⟩ := sat_RDsk.1 h
  exact ⟨SatL.cell h1 (i := 0) (v := .int .i64 s.n) rfl, ok.bd⟩
section
variable {w : World} {L : List HP} {db xb : Nat} {s : Dsk}
set_option maxRecDepth 100000 in
set_option maxHeartbeats 1000000 in
theorem read_no {p n : Int} (hr : I64 p ∧ I64 n) (hy : ¬ (0 ≤ p ∧ 0 < n ∧ n ≤ s.n ∧ p ≤ (s.n : Int) - n)) (h : SatL w (DskR db s :: L)) :
    Calls Try.prog 13 #[.pointer (some ⟨db, 0, none⟩), .int .i64 p, .int .i64 n] w (Ret fun r w' => r = .tuple #[.slice none 0 0, .int .i64 1] ∧ w = w') := by
  have hh := has_no hr h hy
  clear hy h hr
  go_enter Try.func13, Try.ntmps13
  go_wp2_with (first | (go_at_call 22; (with_reducible refine hh.mono ?_); rintro e w' ⟨v, rfl, rfl, rfl⟩))
  go_ret2
  exact Ret.mk ⟨rfl, rfl⟩
set_option maxRecDepth 100000 in
set_option maxHeartbeats 1000000 in
theorem platter_no {p : Int} (hr : I64 p) (hy : p < 0 ∨ (s.n : Int) ≤ p) (h : SatL w (DskR db s :: L)) :
    Calls Try.prog 34 #[.pointer (some ⟨db, 0, none⟩), .int .i64 p] w (Ret fun r w' => r = .tuple #[.slice none 0 0, .int .i64 1] ∧ w = w') := by
  have hh := has_no (n := 1) ⟨hr, by omega⟩ h (by omega)
  clear hy h hr
  go_enter Try.func34, Try.ntmps34
  go_wp2_with (first | (go_at_call 22; (with_reducible refine hh.mono ?_); rintro e w' ⟨v, rfl, rfl, rfl⟩))
  go_ret2
  exact Ret.mk ⟨rfl, rfl⟩
set_option maxRecDepth 100000 in
set_option maxHeartbeats 1000000 in
theorem versions_no {p : Int} (hr : I64 p) (hy : p < 0 ∨ (s.n : Int) ≤ p) (h : SatL w (DskR db s :: L)) :
    Calls Try.prog 18 #[.pointer (some ⟨db, 0, none⟩), .int .i64 p] w (Ret fun r w' => r = .tuple #[.int .i64 0, .int .i64 1] ∧ w = w') := by
  have hh := has_no (n := 1) ⟨hr, by omega⟩ h (by omega)
  clear hy h hr
  go_enter Try.func18, Try.ntmps18
  go_wp2_with (first | (go_at_call 22; (with_reducible refine hh.mono ?_); rintro e w' ⟨v, rfl, rfl, rfl⟩))
  go_ret2
  exact Ret.mk ⟨rfl, rfl⟩
set_option maxRecDepth 100000 in
set_option maxHeartbeats 1000000 in
theorem write_size {p : Int} {a : Option Addr} {z c : Nat} (hz : z = 0 ∨ (0 < z ∧ z ≤ 1000000 ∧ ¬ z % 512 = 0)) (h : SatL w (DskR db s :: L)) :
    Calls Try.prog 10 #[.pointer (some ⟨db, 0, none⟩), .int .i64 p, .slice a z c] w (Ret fun r w' => r = .int .i64 14 ∧ SatL w' (DskR db s :: L)) := by
  have h1 := h.alloc (.cells #[.pointer (some ⟨db, 0, none⟩)] 24)
  have h2 := h1.allocN (n := w.heap.size + 1) (.cells #[.int .i64 p] 3) (by simp)
  have h3 := h2.tail.tail
  rcases hz with rfl | ⟨hz0, hz1, hz2⟩
  · clear h1 h2 h
    go_enter Try.func10, Try.ntmps10
    go_wp2
    go_ret
    exact Ret.mk ⟨rfl, h3⟩
  · have e3 : ¬ (z : Int) = 0 := by omega
    have e5 : ¬ Int.tmod (z : Int) 512 = 0 := by rw [Int.tmod_eq_emod_of_nonneg (by omega)]; omega
    have e6 : ¬ (z : Int) % 512 = 0 := by omega
    have e8 : ((z : Int) % 512 != 0) = true := by simp; omega
    clear h1 h2 h
    go_enter Try.func10, Try.ntmps10
    go_wp2
    go_ret
    exact Ret.mk ⟨rfl, h3⟩
set_option maxRecDepth 100000 in
set_option maxHeartbeats 1000000 in
theorem write_no {p : Int} {a : Option Addr} {z n c : Nat} (hr : I64 p) (hz : z = 512 * n) (hn : 1 ≤ n ∧ n ≤ 1000) (hy : ¬ (0 ≤ p ∧ p + n ≤ s.n)) (h : SatL w (DskR db s :: L)) :
    Calls Try.prog 10 #[.pointer (some ⟨db, 0, none⟩), .int .i64 p, .slice a z c] w (Ret fun r w' => r = .int .i64 1 ∧ SatL w' (DskR db s :: L)) := by
  have h1 := h.alloc (.cells #[.pointer (some ⟨db, 0, none⟩)] 24)
  have h2 := h1.allocN (n := w.heap.size + 1) (.cells #[.int .i64 p] 3) (by simp)
  have h3 := h2.tail.tail
  have hh := has_no (n := (n : Int)) ⟨hr, by omega⟩ h3 (by omega)
  have d3 := SatL.cell (h2.pull 1 : SatL _ (cl _ _ _ :: _)) (i := 0) (v := .pointer (some ⟨db, 0, none⟩)) rfl
  have d4 := SatL.cell (h2 : SatL _ (cl _ _ _ :: _)) (i := 0) (v := .int .i64 p) rfl
  have e1 : ((z : Nat) : Int) / 512 = n := by omega
  have e2 : ((z : Nat) : Int) % 512 = 0 := by omega
  have e3 : ¬ (z : Int) = 0 := by omega
  have e4 : Int.tdiv (z : Int) 512 = n := by rw [Int.tdiv_eq_ediv_of_nonneg (by omega)]; exact e1
  have e5 : Int.tmod (z : Int) 512 = 0 := by rw [Int.tmod_eq_emod_of_nonneg (by omega)]; exact e2
  have hzb : z ≤ 1000000 := by omega
  clear h1 h2 h hz hy hr
  go_enter Try.func10, Try.ntmps10
  go_wp2_with (first | (go_at_call 22; (with_reducible refine hh.mono ?_); rintro e w' ⟨v, rfl, rfl, rfl⟩))
  go_ret
  exact Ret.mk ⟨rfl, h3⟩
set_option maxRecDepth 100000 in
set_option maxHeartbeats 1000000 in
theorem refread_no {p n : Int} (hr : I64 p ∧ I64 n) (hy : ¬ (0 ≤ p ∧ 0 < n ∧ n ≤ s.n ∧ p ≤ (s.n : Int) - n)) (h : SatL w (RDsk xb s :: L)) :
    Calls Try.prog 31 #[.pointer (some ⟨xb, 0, none⟩), .int .i64 p, .int .i64 n] w (Ret fun r w' => r = .tuple #[.slice none 0 0, .int .i64 1] ∧ w = w') := by
  obtain ⟨c0, hn1, hn2⟩ := RDsk.n_cell h
  clear h
  obtain ⟨N, hN⟩ : ∃ N : Int, N = s.n := ⟨_, rfl⟩
  rw [← hN] at c0 hy
  have hb : 1 ≤ N ∧ N ≤ 65536 := by omega
  clear hN hn1 hn2
  by_cases g1 : n < 1
  · clear hy
    go_enter Try.func31, Try.ntmps31
    go_wp2
    go_ret2
    exact Ret.mk ⟨rfl, rfl⟩
  · by_cases g2 : p < 0
    · clear hy
      go_enter Try.func31, Try.ntmps31
      go_wp2
      go_ret2
      exact Ret.mk ⟨rfl, rfl⟩
    · by_cases g3 : N ≤ p
      · clear hy
        go_enter Try.func31, Try.ntmps31
        go_wp2
        go_ret2
        exact Ret.mk ⟨rfl, rfl⟩
      · have g4 : N - p < n := by omega
        clear hy
        go_enter Try.func31, Try.ntmps31
        go_wp2
        go_ret2
        exact Ret.mk ⟨rfl, rfl⟩
set_option maxRecDepth 100000 in
set_option maxHeartbeats 1000000 in
theorem refplatter_no {p : Int} (hr : I64 p) (hy : p < 0 ∨ (s.n : Int) ≤ p) (h : SatL w (RDsk xb s :: L)) :
    Calls Try.prog 35 #[.pointer (some ⟨xb, 0, none⟩), .int .i64 p] w (Ret fun r w' => r = .tuple #[.slice none 0 0, .int .i64 1] ∧ w = w') := by
  obtain ⟨c0, hn1, hn2⟩ := RDsk.n_cell h
  clear h
  by_cases g2 : p < 0
  · clear hy
    go_enter Try.func35, Try.ntmps35
    go_wp2
    go_ret2
    exact Ret.mk ⟨rfl, rfl⟩
  · have g3 : (s.n : Int) ≤ p := by omega
    clear hy
    go_enter Try.func35, Try.ntmps35
    go_wp2
    go_ret2
    exact Ret.mk ⟨rfl, rfl⟩
set_option maxRecDepth 100000 in
set_option maxHeartbeats 1000000 in
theorem refwrite_size {p : Int} {a : Option Addr} {z c : Nat} (hz : z = 0 ∨ (0 < z ∧ z ≤ 1000000 ∧ ¬ z % 512 = 0)) (h : SatL w (RDsk xb s :: L)) :
    Calls Try.prog 27 #[.pointer (some ⟨xb, 0, none⟩), .int .i64 p, .slice a z c] w (Ret fun r w' => r = .int .i64 14 ∧ w = w') := by
  clear h
  rcases hz with rfl | ⟨hz0, hz1, hz2⟩
  · go_enter Try.func27, Try.ntmps27
    go_wp2
    go_ret
    exact Ret.mk ⟨rfl, rfl⟩
  · obtain ⟨q, hq⟩ : ∃ q : Nat, q = z / 512 := ⟨_, rfl⟩
    have hq2 : q ≤ 2000 := by omega
    have e4 : Int.tdiv (z : Int) 512 = q := by rw [Int.tdiv_eq_ediv_of_nonneg (by omega)]; omega
    have e4b : (z : Int) / 512 = q := by omega
    have e5 : ¬ Int.tmod (z : Int) 512 = 0 := by rw [Int.tmod_eq_emod_of_nonneg (by omega)]; omega
    have e6 : ¬ (z : Int) % 512 = 0 := by omega
    have e8 : ((z : Int) % 512 != 0) = true := by simp; omega
    clear hq
    by_cases hq0 : q = 0
    · subst hq0
      go_enter Try.func27, Try.ntmps27
      go_wp2
      go_ret
      exact Ret.mk ⟨rfl, rfl⟩
    · have e7 : ¬ (q : Int) = 0 := by omega
      go_enter Try.func27, Try.ntmps27
      go_wp2
      go_ret
      exact Ret.mk ⟨rfl, rfl⟩
set_option maxRecDepth 100000 in
set_option maxHeartbeats 1000000 in
theorem refwrite_no {p : Int} {a : Option Addr} {z n c : Nat} (hr : I64 p) (hz : z = 512 * n) (hn : 1 ≤ n ∧ n ≤ 1000) (hy : ¬ (0 ≤ p ∧ p + n ≤ s.n)) (h : SatL w (RDsk xb s :: L)) :
    Calls Try.prog 27 #[.pointer (some ⟨xb, 0, none⟩), .int .i64 p, .slice a z c] w (Ret fun r w' => r = .int .i64 1 ∧ w = w') := by
  obtain ⟨c0, hn1, hn2⟩ := RDsk.n_cell h
  have e1 : ((z : Nat) : Int) / 512 = n := by omega
  have e2 : ((z : Nat) : Int) % 512 = 0 := by omega
  have e3 : ¬ (z : Int) = 0 := by omega
  have e4 : Int.tdiv (z : Int) 512 = n := by rw [Int.tdiv_eq_ediv_of_nonneg (by omega)]; exact e1
  have e5 : Int.tmod (z : Int) 512 = 0 := by rw [Int.tmod_eq_emod_of_nonneg (by omega)]; exact e2
  have e6 : ¬ (n : Int) = 0 := by omega
  have hzb : z ≤ 1000000 := by omega
  clear h hz
  obtain ⟨N, hN⟩ : ∃ N : Int, N = s.n := ⟨_, rfl⟩
  rw [← hN] at c0 hy
  have hb : 1 ≤ N ∧ N ≤ 65536 := by omega
  clear hN hn1 hn2
  by_cases g2 : p < 0
  · clear hy
    go_enter Try.func27, Try.ntmps27
    go_wp2
    go_ret
    exact Ret.mk ⟨rfl, rfl⟩
  · by_cases g3 : N ≤ p
    · clear hy
      go_enter Try.func27, Try.ntmps27
      go_wp2
      go_ret
      exact Ret.mk ⟨rfl, rfl⟩
    · have g4 : N - p < n := by omega
      clear hy
      go_enter Try.func27, Try.ntmps27
      go_wp2
      go_ret
      exact Ret.mk ⟨rfl, rfl⟩
set_option maxRecDepth 100000 in
set_option maxHeartbeats 1000000 in
theorem new_no {n : Int} (hn : ¬ (1 ≤ n ∧ n ≤ 65536)) : Calls Try.prog 9 #[.int .i64 n] w (Ret fun r w' => r = .tuple #[.pointer none, .int .i64 1] ∧ w = w') := by
  by_cases g : n < 1
  · clear hn
    go_enter Try.func9, Try.ntmps9
    go_wp2
    go_ret2
    exact Ret.mk ⟨rfl, rfl⟩
  · have g2 : 65536 < n := by omega
    clear hn
    go_enter Try.func9, Try.ntmps9
    go_wp2
    go_ret2
    exact Ret.mk ⟨rfl, rfl⟩
set_option maxRecDepth 100000 in
set_option maxHeartbeats 1000000 in
theorem refnew_no {n : Int} (hn : ¬ (1 ≤ n ∧ n ≤ 65536)) : Calls Try.prog 19 #[.int .i64 n] w (Ret fun r w' => r = .tuple #[.pointer none, .int .i64 1] ∧ w = w') := by
  by_cases g : n < 1
  · clear hn
    go_enter Try.func19, Try.ntmps19
    go_wp2
    go_ret2
    exact Ret.mk ⟨rfl, rfl⟩
  · have g2 : 65536 < n := by omega
    clear hn
    go_enter Try.func19, Try.ntmps19
    go_wp2
    go_ret2
    exact Ret.mk ⟨rfl, rfl⟩
end
end Go.Proofs.Ytjjiljijcigekaa
