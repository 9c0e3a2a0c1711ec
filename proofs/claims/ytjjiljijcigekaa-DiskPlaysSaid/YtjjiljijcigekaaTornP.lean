/- What DiskTorn's disk holds: the plain law. No condition. -/
import Derived.Test.YtjjiljijcigekaaLaw2C
namespace Go.Proofs.Ytjjiljijcigekaa
set_option linter.unusedVariables false
set_option linter.unusedSimpArgs false
open Go.RowKit
theorem gives_row {L : List HP} {w : World} {k : Nat} {a : Option Addr} {n : Nat} {V : Nat → List Value} (h : IsRow w k a n V) : Gives (old w :: L) (fun w' => IsRow w' k a n V) := by
  intro w' hw
  refine ⟨h.1, fun hl => ?_⟩
  obtain ⟨b, o, ha, hc⟩ := h.2 hl
  exact ⟨b, o, ha, fun i hi => ⟨(hc i hi).1, fun j v hv => SatL.oldCell hw ((hc i hi).2 j v hv)⟩⟩
theorem rowAt_flat {f : Nat → List UInt8} (hf : ∀ i, (f i).length = 512) : ∀ {n i : Nat}, i < n → rowAt (((List.range n).map f).flatten) i = f i := by
  have hl : ∀ n, (((List.range n).map f).flatten).length = 512 * n := by
    intro n
    induction n with
    | zero => rfl
    | succ n ih => rw [List.range_succ, List.map_append, List.flatten_append, List.length_append, ih]; simp [hf]; omega
  intro n
  induction n with
  | zero => intro i h; omega
  | succ n ih =>
    intro i h
    have e : ((List.range (n + 1)).map f).flatten = ((List.range n).map f).flatten ++ f n := by rw [List.range_succ, List.map_append, List.flatten_append]; simp
    rw [e]
    by_cases hi : i < n
    · rw [← ih hi]
      unfold rowAt
      rw [List.drop_append_of_le_length (by rw [hl]; omega), List.take_append_of_le_length (by rw [List.length_drop, hl]; omega)]
    · obtain rfl : i = n := by omega
      unfold rowAt
      rw [List.drop_append_of_le_length (by rw [hl]; omega), List.drop_of_length_le (by rw [hl]; omega), List.nil_append, List.take_of_length_le (by rw [hf]; omega)]
theorem rowAt_rowB {b n i : Nat} (h : i < n) : rowAt (rowB b n) i = blockB ((b + i) % 256) := rowAt_flat (f := fun i => blockB ((b + i) % 256)) (fun i => blkN_len _ _) h
theorem cp_at {s : Dsk} {n : Nat} {Z : Nat → Int} (hn : s.dirtyN.Nodup) {q j : Nat} (hq : s.dirtyN[q]? = some j) : ∀ Q, q < Q → s.cp n Z Q j = if pickN n Z q (s.V j).length ≠ 0 then (s.V j).getD (pickN n Z q (s.V j).length - 1) [] else s.P j := by
  have hoff : ∀ Q, Q ≤ q → s.cp n Z Q j = s.P j := by
    intro Q
    induction Q with
    | zero => intro _; rfl
    | succ Q ih =>
      intro hQ
      show (if _ then _ else _) = _
      rw [if_neg, ih (by omega)]
      rintro ⟨h, _⟩
      have := (List.getElem?_inj (List.getElem?_eq_some_iff.1 h).1 hn).1 (h.trans hq.symm)
      omega
  intro Q
  induction Q with
  | zero => intro h; omega
  | succ Q ih =>
    intro h
    show (if _ then _ else _) = _
    by_cases hqQ : q = Q
    · subst hqQ
      by_cases h0 : pickN n Z q (s.V j).length ≠ 0
      · rw [if_pos ⟨hq, h0⟩, if_pos h0]
      · rw [if_neg (fun e => h0 e.2), if_neg h0, hoff q (Nat.le_refl _)]
    · rw [if_neg, ih (by omega)]
      rintro ⟨h3, _⟩
      have := (List.getElem?_inj (List.getElem?_eq_some_iff.1 h3).1 hn).1 (h3.trans hq.symm)
      exact hqQ this.symm
theorem dirtyN_nodup (s : Dsk) : s.dirtyN.Nodup := by unfold Dsk.dirtyN; exact List.nodup_range.filter _
def tS1 (N : Nat) : Dsk := (Dsk.new 20).wr 2 (rowB 1 N) N
def tS3 (N : Nat) : Dsk := (tS1 N).flushed.wr 2 (rowB 101 N) N
theorem t1_V (N j : Nat) : (tS1 N).V j = if 2 ≤ j ∧ j < 2 + N then [rowAt (rowB 1 N) (j - 2)] else [] := rfl
theorem t3_V (N j : Nat) : (tS3 N).V j = if 2 ≤ j ∧ j < 2 + N then [rowAt (rowB 101 N) (j - 2)] else [] := rfl
theorem t1_le (N : Nat) : ∀ j, ((tS1 N).V j).length ≤ 1 := by intro j; rw [t1_V]; split <;> simp
theorem t3_le (N : Nat) : ∀ j, ((tS3 N).V j).length ≤ 1 := by intro j; rw [t3_V]; split <;> simp
theorem t3_dirty {N : Nat} (hN : N ≤ 18) : (tS3 N).dirtyN = (List.range N).map (fun i => 2 + i) := by
  refine List.Perm.eq_of_pairwise (le := (· < ·)) (fun x y _ _ h1 h2 => by omega) ?_ ?_ ((List.perm_ext_iff_of_nodup (dirtyN_nodup _) ?_).2 fun j => ?_)
  · unfold Dsk.dirtyN
    exact (List.pairwise_lt_range).filter _
  · rw [List.pairwise_map]
    exact (List.pairwise_lt_range).imp (fun h => by omega)
  · rw [List.Nodup, List.pairwise_map]
    exact (List.pairwise_lt_range).imp (fun h => by omega)
  · unfold Dsk.dirtyN
    rw [List.mem_filter, List.mem_range, Bool.not_eq_true', List.isEmpty_eq_false_iff, t3_V, List.mem_map]
    constructor
    · rintro ⟨_, h⟩
      split at h
      · rename_i hc; exact ⟨j - 2, List.mem_range.2 (by omega), by omega⟩
      · exact absurd rfl h
    · rintro ⟨i, hi, rfl⟩
      have := List.mem_range.1 hi
      refine ⟨show 2 + i < 20 by omega, ?_⟩
      rw [if_pos (by omega)]; simp
theorem t1_cur {N i : Nat} (hi : i < N) (h16 : N ≤ 16) : (tS1 N).cur (2 + i) = blockB (1 + i) := by
  unfold Dsk.cur
  rw [t1_V, if_pos (by omega)]
  show rowAt (rowB 1 N) (2 + i - 2) = _
  rw [Nat.add_sub_cancel_left, rowAt_rowB hi, Nat.mod_eq_of_lt (by omega)]
theorem t3_cur {N i : Nat} (hi : i < N) (h16 : N ≤ 16) : (tS3 N).cur (2 + i) = blockB (101 + i) := by
  unfold Dsk.cur
  rw [t3_V, if_pos (by omega)]
  show rowAt (rowB 101 N) (2 + i - 2) = _
  rw [Nat.add_sub_cancel_left, rowAt_rowB hi, Nat.mod_eq_of_lt (by omega)]
def tornB (n : Nat) (Z : Nat → Int) (i : Nat) : List UInt8 := if i < n ∧ wi (Z i) 2 = 1 then blockB (101 + i) else blockB (1 + i)
theorem tN_cur {N i n : Nat} {Z : Nat → Int} (hi : i < N) (h16 : N ≤ 16) : ((tS3 N).crash n Z).cur (2 + i) = tornB n Z i := by
  show (tS3 N).cp n Z _ (2 + i) = _
  have hd := t3_dirty (N := N) (by omega)
  have hq : (tS3 N).dirtyN[i]? = some (2 + i) := by rw [hd, List.getElem?_map, List.getElem?_range hi]; rfl
  rw [cp_at (dirtyN_nodup _) hq _ (by rw [hd, List.length_map, List.length_range]; exact hi)]
  have hV : (tS3 N).V (2 + i) = [blockB (101 + i)] := by
    rw [t3_V, if_pos (by omega), Nat.add_sub_cancel_left, rowAt_rowB hi, Nat.mod_eq_of_lt (by omega)]
  have hP : (tS3 N).P (2 + i) = blockB (1 + i) := t1_cur hi h16
  rw [hV, hP]
  have hpk : pickN n Z i [blockB (101 + i)].length = if i < n then wi (Z i) 2 else 0 := rfl
  rw [hpk]
  unfold tornB
  have hw := wi_lt (Z i) (show 0 < 2 by omega)
  by_cases h1 : i < n
  · rw [if_pos h1]
    by_cases h2 : wi (Z i) 2 = 1
    · rw [if_pos (by omega), if_pos ⟨h1, h2⟩, h2, Nat.sub_self, List.getD_cons_zero]
    · rw [if_neg (by omega), if_neg (fun e => h2 e.2)]
  · rw [if_neg h1, if_neg (fun e => e rfl), if_neg (fun e => h1 e.1)]
theorem tF_dirty (N : Nat) : (tS3 N).flushed.dirtyN = [] := by
  unfold Dsk.dirtyN
  rw [List.filter_eq_nil_iff]
  intro a _ h
  exact absurd h (by show ¬ (!([] : List (List UInt8)).isEmpty) = true; decide)
theorem tF_cur {N i n : Nat} {Z : Nat → Int} (hi : i < N) (h16 : N ≤ 16) : ((tS3 N).flushed.crash n Z).cur (2 + i) = blockB (101 + i) := by
  show (tS3 N).flushed.cp n Z _ (2 + i) = _
  rw [tF_dirty]
  exact t3_cur hi h16
/-- a row of what is read -/
theorem rowAt_read {s : Dsk} {p n i : Nat} (h : i < n) (hl : ∀ j, j < n → (s.cur (p + j)).length = 512) : rowAt (s.read p n) i = s.cur (p + i) := by
  have e : s.read p n = ((List.range n).map (fun j => if j < n then s.cur (p + j) else List.replicate 512 0)).flatten := by
    unfold Dsk.read
    congr 1
    apply List.map_congr_left
    intro j hj
    rw [if_pos (List.mem_range.1 hj)]
  rw [e, rowAt_flat (f := fun j => if j < n then s.cur (p + j) else List.replicate 512 0) (fun j => by
    split
    · rename_i hj; exact hl j hj
    · exact List.length_replicate ..) h, if_pos h]
end Go.Proofs.Ytjjiljijcigekaa
