/- slices.Sort at a row of ints that is owned. No condition. -/
import Derived.Test.YtlmjjfgnpcghgaaOps
import Derived.Test.YtlmjjfgnpcghgaaSortLay
import Derived.Test.YtlmjjfgnpcghgaaChecked
namespace Go.Proofs.Ytlmjjfgnpcghgaa
set_option linter.unusedVariables false
set_option linter.unusedSimpArgs false
open Go.RowKit Go.Sort Go.Shelf

def ups (ks : List Int) : List Int := ks.mergeSort (fun x y => decide (x ≤ y))
theorem ups_mem {ks : List Int} {k : Int} : k ∈ ups ks ↔ k ∈ ks := List.mem_mergeSort
theorem ups_perm (ks : List Int) : (ups ks).Perm ks := List.mergeSort_perm _ _
theorem ups_len (ks : List Int) : (ups ks).length = ks.length := (ups_perm ks).length_eq
theorem ups_sorted (ks : List Int) : (ups ks).Pairwise (· ≤ ·) := by
  have := List.pairwise_mergeSort (le := fun x y : Int => decide (x ≤ y)) (fun a b c h1 h2 => by simp at *; omega) (fun a b => by simp; omega) ks
  exact this.imp fun h => by simpa using h
theorem ups_of_perm {a c : List Int} (h : a.Perm c) : ups a = ups c :=
  List.Perm.eq_of_pairwise (le := (· ≤ ·)) (fun x y _ _ h1 h2 => by omega) (ups_sorted a) (ups_sorted c) (((ups_perm a).trans h).trans (ups_perm c).symm)
theorem ups_unique {a c : List Int} (h : a.Perm c) (hc : c.Pairwise (· ≤ ·)) : ups a = c :=
  List.Perm.eq_of_pairwise (le := (· ≤ ·)) (fun x y _ _ h1 h2 => by omega) (ups_sorted a) hc ((ups_perm a).trans h)

section
variable {w : World} {L : List HP} {T : Nat}
theorem sorted_cells {arr : Array Value} {off n : Nat} {ks : List Int} (hn : ks.length = n) (ho : off + n ≤ arr.size) : (((putCells (Value.int .i64) off ks.toArray arr).toList.drop off).take n) = ks.map (Value.int .i64) := by
  apply List.ext_getElem?
  intro i
  rw [List.getElem?_take, List.getElem?_map]
  by_cases hi : i < n
  · rw [if_pos hi, List.getElem?_drop]
    have h1 : (putCells (Value.int .i64) off ks.toArray arr).toList[off + i]? = (putCells (Value.int .i64) off ks.toArray arr)[off + i]? := by simp
    rw [h1]
    unfold putCells
    rw [Array.getElem?_mapIdx, Array.getElem?_eq_getElem (by omega), Option.map_some, if_pos ⟨by omega, by simp; omega⟩, show off + i - off = i by omega]
    have h2 : ks[i]? = some ks[i] := List.getElem?_eq_getElem (by omega)
    rw [h2, Option.map_some, getElem!_pos _ i (by simp; omega)]
    simp
  · rw [if_neg hi, List.getElem?_eq_none (by omega)]; rfl
theorem Sl.sorted {b off c n m : Nat} {xs : List Value} {ks : List Int} (hk : ks.length = n) (hx : xs.length = n) (h : SatL w (Sl T (.slice (some ⟨b, off, none⟩) n c) xs :: L)) (os : Array Obj) :
    SatL (grow (putRow (Value.int .i64) (Sort.ahead w m) b off ks.toArray) os) (Sl T (.slice (some ⟨b, off, none⟩) n c) (ks.map (Value.int .i64)) :: L) := by
  have h0 : SatL w (SlK T 1 (.slice (some ⟨b, off, none⟩) n c) xs.length xs :: L) := h
  rcases sat_SlK.1 h0 with ⟨h1, _⟩ | ⟨b', off', cap', arr, h5, hs⟩
  · cases h1
  · obtain ⟨e1, e2, e3, e4, e5, e6⟩ := h5
    cases e1
    have hb := hs.heap
    have h6 : SatL (putRow (Value.int .i64) (Sort.ahead w m) b off ks.toArray) (pt b (.cells (putCells (Value.int .i64) off ks.toArray arr) T (0, 0)) :: L) := by
      refine SatL.put hs rfl ?_ ?_
      · show ((Sort.ahead w m).heap.modify b _)[b]? = _
        rw [Array.getElem?_modify, if_pos rfl]
        show (w.heap[b]?).map _ = _
        rw [hb]; rfl
      · intro k hk
        show ((Sort.ahead w m).heap.modify b _)[k]? = _
        rw [Array.getElem?_modify, if_neg (Ne.symm hk)]; rfl
    have h7 : SatL (grow (putRow (Value.int .i64) (Sort.ahead w m) b off ks.toArray) os) (pt b (.cells (putCells (Value.int .i64) off ks.toArray arr) T (0, 0)) :: L) :=
      h6.grow rfl fun k o hk => by rw [heap_grow_old _ _ (Array.getElem?_eq_some_iff.1 hk).1]; exact hk
    have hkl : (ks.map (Value.int .i64)).length = xs.length := by rw [List.length_map]; exact hk
    refine Sl.ofK (n := xs.length) (sat_SlK.2 (.inr ⟨b, off, c, putCells (Value.int .i64) off ks.toArray arr, ⟨rfl, by omega, e3, by omega, by unfold putCells; rw [Array.size_mapIdx]; exact e5, ?_⟩, h7⟩))
    rw [Nat.mul_one]
    exact sorted_cells hk (by omega)
theorem Sl.holds {b off c n : Nat} {ks : List Int} (h : SatL w (Sl T (.slice (some ⟨b, off, none⟩) n c) (ks.map (Value.int .i64)) :: L)) : Sort.Holds (Value.int .i64) w b off ks.toArray := by
  intro j hj
  have hj' : j < ks.length := by simpa using hj
  refine ⟨Sl.cell h (by rw [List.getElem?_map, List.getElem?_eq_getElem hj', Option.map_some, getElem!_pos _ j hj]; simp), Sl.free h _⟩
theorem sort_ok {v : Value} {ks : List Int} (h : SatL w (Sl T v (ks.map (Value.int .i64)) :: L)) (hn : ks.length ≤ 1000000) :
    Calls Try.prog 39 #[v] w (Ret fun r w' => r = .tuple #[] ∧ SatL w' (Sl T v ((ups ks).map (Value.int .i64)) :: L)) := by
  obtain ⟨a, c, rfl, h1, h2⟩ := Sl.valn h (m := ks.length) (by rw [List.length_map])
  rcases Nat.eq_zero_or_pos ks.length with h0 | h0
  · have e : ks = [] := List.length_eq_zero_iff.1 h0
    subst e
    refine (AnyM.slices_Sort_int_none Try.sortA a c w).mono ?_
    rintro e w' ⟨rfl, rfl⟩
    have e : ups [] = [] := List.eq_nil_of_length_eq_zero (ups_len [])
    exact Ret.mk ⟨rfl, by rw [e]; exact h⟩
  · obtain ⟨b, off, rfl⟩ := Sl.addr h h0
    refine (AnyM.slices_Sort_int Try.sortA b off c ks w (Sl.holds h) (Sl.lt h) (by omega)).mono ?_
    rintro e w' ⟨rfl, n, os, rfl⟩
    exact Ret.mk ⟨rfl, Sl.sorted (ups_len ks) (by rw [List.length_map]) h os⟩
end
end Go.Proofs.Ytlmjjfgnpcghgaa
