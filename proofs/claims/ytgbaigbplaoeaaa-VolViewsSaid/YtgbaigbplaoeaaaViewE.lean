/- A view's calls at numbers that are none of its blocks', and at rows that are no block. -/
import Derived.Test.YtgbaigbplaoeaaaViewPuts
import Derived.Test.YtgbaigbplaoeaaaIsErr
namespace Go.Proofs.Ytgbaigbplaoeaaa
set_option linter.unusedVariables false
set_option linter.unusedSimpArgs false
open Go.RowKit
section
variable {w : World} {L : List HP} {vb mb i tb dt : Nat} {rows : List (Option (List UInt8))} {puts : Puts}
theorem has_no {n : Nat} {k : Int} (hk : k < 0 ∨ (n : Int) ≤ k) (c1 : w.cell? ⟨vb, 1, none⟩ = some (.int .i64 n)) :
    Calls Try.prog 57 #[.pointer (some ⟨vb, 0, none⟩), .int .i64 k] w (fun e w' => e = .returned (.bool false) ∧ w = w') := by
  have hk2 : k < 0 ∨ (0 ≤ k ∧ ¬ k < n) := by omega
  clear hk
  rcases hk2 with h1 | ⟨h1, h2⟩
  all_goals
    go_enter Try.func57, Try.ntmps57
    go_wp2
    go_ret
    exact ⟨rfl, rfl⟩
theorem view_c1 (h : SatL w (ViewR vb mb i tb dt rows puts :: L)) : w.cell? ⟨vb, 1, none⟩ = some (.int .i64 rows.length) := by
  obtain ⟨m, h1⟩ := sat_ViewR.1 h
  exact h1.cell (i := 1) rfl
theorem get_arg {k : Int} (h : SatL w (ViewR vb mb i tb dt rows puts :: L)) (hk : k < 0 ∨ (rows.length : Int) ≤ k) :
    Calls Try.prog 33 #[.pointer (some ⟨vb, 0, none⟩), .int .i64 k] w (Ret fun v w' => v = .tuple #[.slice none 0 0, errno 1] ∧ SatL w' (ViewR vb mb i tb dt rows puts :: L)) := by
  have hh := has_no hk (view_c1 h)
  clear hk
  go_enter Try.func33, Try.ntmps33
  go_wp2_with (go_at_call 57; (with_reducible refine hh.mono ?_); rintro e w1 ⟨rfl, rfl⟩)
  go_ret2
  exact Ret.mk ⟨rfl, h⟩
theorem put_arg {k : Int} {dv : Value} (h : SatL w (ViewR vb mb i tb dt rows puts :: L)) (hk : k < 0 ∨ (rows.length : Int) ≤ k) :
    Calls Try.prog 31 #[.pointer (some ⟨vb, 0, none⟩), .int .i64 k, dv] w (Ret fun v w' => v = errno 1 ∧ SatL w' (ViewR vb mb i tb dt rows puts :: L)) := by
  have hh := has_no hk (view_c1 h)
  clear hk
  go_enter Try.func31, Try.ntmps31
  go_wp2_with (go_at_call 57; (with_reducible refine hh.mono ?_); rintro e w1 ⟨rfl, rfl⟩)
  go_ret
  exact Ret.mk ⟨rfl, h⟩
theorem put_size {k n c : Nat} {a : Option Addr} (h : SatL w (ViewR vb mb i tb dt rows puts :: L)) (hk : k < rows.length) (hn : n ≠ 512) :
    Calls Try.prog 31 #[.pointer (some ⟨vb, 0, none⟩), .int .i64 k, .slice a n c] w (Ret fun v w' => v = errno 14 ∧ SatL w' (ViewR vb mb i tb dt rows puts :: L)) := by
  have hh := has_in hk (view_c1 h)
  have hn2 : ((n : Int) != 512) = true := by simp; omega
  clear hk hn
  go_enter Try.func31, Try.ntmps31
  go_wp2_with (go_at_call 57; (with_reducible refine hh.mono ?_); rintro e w1 ⟨rfl, rfl⟩)
  go_ret
  exact Ret.mk ⟨rfl, h⟩
end

/-- the block that VolViews lays in -/
def blkB (x y : Nat) : List UInt8 := (zero512.set 9 (byteOf x)).set 10 (byteOf y)
theorem blkB_len (x y : Nat) : (blkB x y).length = 512 := by rw [blkB, List.length_set, List.length_set, zero512_len]
theorem blkB_9 (x y : Nat) : (blkB x y).getD 9 0 = byteOf x := by
  rw [blkB, List.getD_eq_getElem?_getD, List.getElem?_set, if_neg (by omega), List.getElem?_set, if_pos rfl, if_pos (by rw [zero512_len]; omega)]; rfl
theorem blkB_10 (x y : Nat) : (blkB x y).getD 10 0 = byteOf y := by
  rw [blkB, List.getD_eq_getElem?_getD, List.getElem?_set, if_pos rfl, if_pos (by rw [List.length_set, zero512_len]; omega)]; rfl
/-- what was put, told by the round in which it was (and 1) -/
def putsV (B : Nat → Nat) (p : Nat → Nat) : Puts := fun k => if 0 ≤ k ∧ k < 200 ∧ p k.toNat ≠ 0 then some (blkB (B (p k.toNat - 1)) (p k.toNat - 1)) else none
theorem putsV_512 (B : Nat → Nat) (p : Nat → Nat) : Puts512 (putsV B p) := by
  intro k d h
  unfold putsV at h
  split at h
  · cases h; exact blkB_len _ _
  · cases h
theorem putsV_zero (B : Nat → Nat) : putsV B (fun _ => 0) = fun _ => none := by funext k; unfold putsV; simp
theorem putsV_put (B : Nat → Nat) (p : Nat → Nat) {n : Nat} (hn : n < 200) (j : Nat) : upo (putsV B p) (n : Int) (blkB (B j) j) = putsV B (fun t => if t = n then j + 1 else p t) := by
  funext k
  unfold upo putsV
  by_cases hk : k = n
  · subst hk; simp; omega
  · rw [if_neg hk]
    by_cases h0 : 0 ≤ k
    · have : ¬ k.toNat = n := by omega
      simp [this]
    · simp [h0]
theorem putsV_some {B : Nat → Nat} {p : Nat → Nat} {k : Int} : (putsV B p k).isSome = true ↔ 0 ≤ k ∧ k < 200 ∧ p k.toNat ≠ 0 := by
  unfold putsV; split <;> simp_all
/-- the places up to n at which something was put -/
def putAt (p : Nat → Nat) (n : Nat) : List Nat := (List.range n).filter fun t => p t != 0
theorem putAt_succ (p : Nat → Nat) (n : Nat) : putAt p (n + 1) = putAt p n ++ if p n = 0 then [] else [n] := by
  unfold putAt
  rw [List.range_succ, List.filter_append]
  by_cases h : p n = 0 <;> simp [h]
theorem putAt_get {p : Nat → Nat} {n m : Nat} (hn : n < m) (hp : p n ≠ 0) : (putAt p m)[(putAt p n).length]? = some n ∧ (putAt p n).length < (putAt p m).length := by
  induction m with
  | zero => omega
  | succ m ih =>
    rw [putAt_succ]
    by_cases h : n = m
    · subst h
      rw [if_neg hp]
      simp
    · obtain ⟨h1, h2⟩ := ih (by omega)
      rw [List.getElem?_append_left h2, List.length_append]
      exact ⟨h1, by omega⟩
theorem putAt_le (p : Nat → Nat) (n : Nat) : (putAt p n).length ≤ n := by
  unfold putAt
  have := List.length_filter_le (fun t => p t != 0) (List.range n)
  simpa using this
theorem putKeysV (B : Nat → Nat) (p : Nat → Nat) : PutKeys (putsV B p) ((putAt p 200).map fun t : Nat => (t : Int)) := by
  refine ⟨?_, fun k => ?_⟩
  · unfold putAt
    rw [List.pairwise_map]
    exact (List.pairwise_lt_range.filter _).imp fun h => by omega
  · rw [putsV_some]
    simp only [putAt, List.mem_map, List.mem_filter, List.mem_range, bne_iff_ne]
    constructor
    · rintro ⟨t, ⟨h1, h2⟩, rfl⟩; exact ⟨by omega, by omega, by simpa using h2⟩
    · rintro ⟨h1, h2, h3⟩; exact ⟨k.toNat, ⟨by omega, h3⟩, by omega⟩
end Go.Proofs.Ytgbaigbplaoeaaa
