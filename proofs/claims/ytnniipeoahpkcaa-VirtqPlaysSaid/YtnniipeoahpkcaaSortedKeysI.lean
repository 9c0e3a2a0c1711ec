/- slices.Sorted(maps.Keys(m)) at a map with int keys that is owned. -/
import Derived.Test.YtnniipeoahpkcaaMapKeys
import Derived.Test.YtnniipeoahpkcaaKeys
import Derived.Test.YtnniipeoahpkcaaChecked
import Derived.Test.YtnniipeoahpkcaaAuto
namespace Go.Proofs.Ytnniipeoahpkcaa
set_option linter.unusedVariables false
set_option linter.unusedSimpArgs false
open Go.RowKit Go.Maps Go.Sort Go.Shelf

theorem sortsA (m : Nat) : AnyZI.SortsIn Try.prog Try.sortedA_ren Fence.wide m :=
  ⟨fun blk off cap ss W hH hblk hsz => callsIn_wide.2 (AnyM.slices_Sort_int Try.sortA blk off cap ss W hH hblk hsz),
   fun p cap W => callsIn_wide.2 (AnyM.slices_Sort_int_none Try.sortA p cap W)⟩

def ups (ks : List Int) : List Int := ks.mergeSort (fun x y => decide (x ≤ y))
theorem ups_mem {ks : List Int} {k : Int} : k ∈ ups ks ↔ k ∈ ks := List.mem_mergeSort
theorem ups_perm (ks : List Int) : (ups ks).Perm ks := List.mergeSort_perm _ _
theorem ups_sorted (ks : List Int) : (ups ks).Pairwise (· ≤ ·) := by
  have := List.pairwise_mergeSort (le := fun x y : Int => decide (x ≤ y)) (fun a b c h1 h2 => by simp at *; omega) (fun a b => by simp; omega) ks
  exact this.imp fun h => by simpa using h
theorem ups_of_perm {a c : List Int} (h : a.Perm c) : ups a = ups c := mergeSort_of_perm_i h

section
variable {w : World} {L : List HP}
/-- a row that a callee made, with all that was there left as it was -/
theorem SatL.row_of {w' : World} {T : Nat} {v : Value} {n : Nat} {xs : List Value} (h : SatL w L) (hb : Below w.heap.size w w') (hr : w'.ownsRow w.heap.size T 1 v n xs) : SatL w' (Sl T v xs :: L) := by
  obtain ⟨hl, hr | ⟨g, cap, cur, rfl, hg, hc, h1, h2, h3, h4⟩⟩ := hr
  · obtain ⟨rfl, rfl⟩ := hr
    have : xs = [] := by cases xs with | nil => rfl | cons y ys => simp at hl
    subst this
    exact Sl_nil (h.below_mono hb)
  · have hs := h.below_new hb hg hc
    refine Sl.ofK (n := n) (sat_SlK.2 (.inr ⟨g, 0, cap, cur, ⟨rfl, h1, h2, hl, by rw [h3]; omega, ?_⟩, hs⟩))
    simpa using h4

theorem keysFn_ok {b : Nat} (h : SatL w L) : Calls Try.prog 38 #[.map (some b)] w (Ret fun v w' => v = .func (.func 47) #[] #[.pointer (some ⟨w.heap.size, 0, none⟩)] ∧ SatL w' (cl w.heap.size 67 #[.map (some b)] :: L)) := by
  have cK : CallsIn Fence.wide 5 Try.prog 38 #[.map (some b)] w fun e w' => e = .returned (.func (.func 47) #[] #[.pointer (some ⟨w.heap.size, 0, none⟩)]) ∧ w' = w.alloc (.cells #[.map (some b)] 67) := AnyZI.keys_in Try.keysA Fence.wide 5 trivial rfl (some b) w
  refine ((callsIn_wide (n := 5)).1 cK).mono ?_
  rintro e w' ⟨rfl, rfl⟩
  exact ⟨_, rfl, rfl, h.alloc _⟩

theorem sortedFn_ok {b kb : Nat} {es : IM} (h : SatL w (cl kb 67 #[.map (some b)] :: MapI b es :: L)) (hk : ∀ k ∈ mkeys es, (Lit.int .i64 k).wf = true) (hn : es.length ≤ 1000000) :
    Calls Try.prog 37 #[.func (.func 47) #[] #[.pointer (some ⟨kb, 0, none⟩)]] w (Ret fun v w' => SatL w' (Sl 3 v ((ups (mkeys es)).map (Value.int .i64)) :: cl kb 67 #[.map (some b)] :: MapI b es :: L)) := by
  obtain ⟨D, hown, hperm, hsz⟩ := MapI.owns (P := Try.prog) (K := 3) Try.underlying3 (h.pull 1 : SatL w (MapI b es :: _)) hk (by unfold maxLen; omega)
  have hkb := SatL.lt h
  have hc := h.cell (i := 0) (v := .map (some b)) rfl
  have hseq : SeqGives Fence.wide 2 Try.prog 47 #[.pointer (some ⟨kb, 0, none⟩)] encZ (fun ss => ss.Perm (intKeys D)) (Maps.size D) w :=
    AnyZI.keys_gives (ρ := Try.keysA_ren) { Try.keysA with } Fence.wide _ trivial rfl (by omega) kb b es.length D _ hkb hc hown
  have cS := AnyZI.sorted_in Try.sortedA Fence.wide 5 trivial trivial trivial trivial rfl (by omega) (sortsA _) (enters_of Try.func46 (by kernel_rfl) rfl) 47 #[.pointer (some ⟨kb, 0, none⟩)] trivial (enters_of Try.func47 (by kernel_rfl) rfl) _ _ (by rw [hsz]; unfold maxLen; omega) (by rw [hsz]; omega) _ hseq
  change CallsIn _ _ Try.prog 37 _ _ _ at cS
  refine ((callsIn_wide (n := 5)).1 cS).mono ?_
  rintro e w' ⟨v, ss, rfl, hS, hrow, hnil, hb⟩
  refine ⟨v, rfl, ?_⟩
  have h2 := h.row_of hb hrow
  have e : ss.mergeSort (fun x y => decide (x ≤ y)) = ups (mkeys es) := ups_of_perm (hS.trans hperm)
  rw [e] at h2
  exact h2
end
end Go.Proofs.Ytnniipeoahpkcaa
