/- slices.Collect(slices.Chunk(b, 512)) of bytes. No condition beside the size. -/
import Derived.Test.YtjjnadlklfegcaaChunk
import Derived.Test.YtjjnadlklfegcaaPushIn
import Derived.Test.YtjjnadlklfegcaaWalRec
import Derived.Shelf.Abstract
namespace Go.Proofs.Ytjjnadlklfegcaa
set_option linter.unusedVariables false
set_option linter.unusedSimpArgs false
open Go.RowKit
attribute [local go_sem] Oper.semAt_some

def BoxRows (Bs : Nat) (xs : List Value) : HP := ex fun v => sep [cl Bs 98 #[v], Sl 27 v xs]
section
variable {w : World} {L : List HP}
theorem sat_BoxRows {Bs : Nat} {xs : List Value} : SatL w (BoxRows Bs xs :: L) ↔ ∃ v, SatL w (cl Bs 98 #[v] :: Sl 27 v xs :: L) := by
  simp only [BoxRows, sat_ex, sat_sep, List.cons_append, List.nil_append]

set_option maxRecDepth 100000 in
set_option maxHeartbeats 2000000 in
theorem appendseq_ok {b off n c m b1 b2 : Nat} (hm : n = 512 * m) (hn : n ≤ 1000000) (hc : n ≤ c) (hc2 : c ≤ 9223372036854775807)
    (h : SatL w (cl b1 27 #[.slice (some ⟨b, off, none⟩) n c] :: cl b2 3 #[.int .i64 512] :: L)) :
    Calls Try.prog 71 #[.slice none 0 0, .func (.func 72) #[] #[.pointer (some ⟨b1, 0, none⟩), .pointer (some ⟨b2, 0, none⟩)]] w
      (Ret fun r w' => SatL w' (Sl 27 r ((List.range m).map (chunkV b off)) :: L)) := by
  refine (callsIn_wide (n := 6)).1 ?_
  refine callsIn_of_wp_marks Try.func71 rfl trivial ?_ rfl
  simp only [Try.ntmps71, List.size_toArray, List.length_cons, List.length_nil, Nat.reduceAdd, Nat.reduceSub, Array.replicate_succ, Array.replicate_zero, List.push_toArray, List.append_toArray, List.nil_append, List.cons_append]
  have h1 := h.alloc (.cells #[.slice none 0 0] 98)
  have h2 : SatL (w.alloc (.cells #[.slice none 0 0] 98)) (BoxRows w.heap.size [] :: cl b1 27 #[.slice (some ⟨b, off, none⟩) n c] :: cl b2 3 #[.int .i64 512] :: L) :=
    sat_BoxRows.2 ⟨.slice none 0 0, (Sl_nil h1).swap⟩
  gi_wp2
  refine wpIn_rangeFunc_sl (F := Fence.wide) (n := 6) rfl (by omega) (gf := 72) (lb := #[.pointer (some ⟨b1, 0, none⟩), .pointer (some ⟨b2, 0, none⟩)]) rfl trivial (enters_of Try.func72 (by kernel_rfl) rfl)
    (chunk_seq hm hn hc hc2) (fun x => rfl) (fun pre => BoxRows w.heap.size (pre.map (chunkV b off)) :: L) (h2.bring [1, 2, 0])
    (fun x => { tmps := #[.slice none 0 0, .func (.func 72) #[] #[.pointer (some ⟨b1, 0, none⟩), .pointer (some ⟨b2, 0, none⟩)], .pointer (some ⟨w.heap.size, 0, none⟩), undef, .slice none 0 0, chunkV b off x, .func (.func 72) #[] #[.pointer (some ⟨b1, 0, none⟩), .pointer (some ⟨b2, 0, none⟩)], chunkV b off x, undef, undef, undef, undef, undef], defers := [] }) ?assign ?body ?done
  case assign =>
    intro l x W K hK
    gi_wp2
    exact hK
  case body =>
    intro l pre x X Y W hpre hW
    have hpl : pre.length + 1 ≤ m := by
      have := hpre.length_le
      simpa using this
    obtain ⟨v, hv⟩ := sat_BoxRows.1 (SatL.pull hW 4 : SatL W (BoxRows _ _ :: _))
    have hsl : SatL W (Sl 27 v (pre.map (chunkV b off)) :: _) := hv.swap
    have b1' : ((pre.map (chunkV b off)).length + 1) * 24 ≤ 140737488355328 := by rw [List.length_map]; omega
    have b8 : 0 < 24 := by omega
    obtain ⟨va, vc, rfl, q1, q2⟩ := Sl.valn hsl (m := pre.length) (by simp)
    have c0 := SatL.cell (v := .slice va pre.length vc) (hv : SatL W (cl w.heap.size _ _ :: _)) (i := 0) rfl
    gi_wp2_with (gi_at_builtin; refine wpListIn_push_sl (nb := W.heap.size) rfl rfl (.tmp 8) (.tmp 10) rfl elem_rows b8 rfl hsl rfl rfl b1' ?_; intro v' w' h'; obtain ⟨va', vc', rfl, q3, q4⟩ := Sl.valn h' (m := pre.length + 1) (by simp); have k3 : SatL w' (cl w.heap.size _ _ :: _) := SatL.swap h'; have z0 := SatL.cell (v := .slice va pre.length vc) k3 (i := 0) rfl; have f0 := SatL.free k3 0)
    have k4 := SatL.set k3 (i := 0) (.slice va' (pre.length + 1) vc')
    show SatL _ _
    rw [List.map_append]
    have k5 := sat_BoxRows.2 ⟨_, k4⟩
    exact k5.bring [1, 2, 3, 4, 0]
  case done =>
    intro D W hW
    obtain ⟨v, hv⟩ := sat_BoxRows.1 (SatL.pull hW 3 : SatL W (BoxRows _ _ :: _))
    have hsl : SatL W (Sl 27 v ((List.range m).map (chunkV b off)) :: _) := hv.swap
    obtain ⟨va, vc, rfl, q1, q2⟩ := Sl.valn hsl (m := m) (by simp)
    have c0 := SatL.cell (v := .slice va m vc) (hv : SatL W (cl w.heap.size _ _ :: _)) (i := 0) rfl
    gi_wp2
    have hK : W.heap[D]? = some (.deferred (some [])) := hW.heap
    have k6 := SatL.putObj (hv.bring [2, 0, 1, 3, 4] : SatL W (pt D (.deferred (some [])) :: cl w.heap.size 98 #[.slice va m vc] :: _)) (.deferred none)
    refine ⟨by simp, .inl ⟨_, _, rfl, run_takeDeferred hK, ?_⟩⟩
    refine ⟨_, results_tmp rfl _ _ _, Ret.mk ?_⟩
    exact SatL.tail (SatL.tail (SatL.tail (SatL.tail (SatL.bring k6 [0, 1, 3, 4, 2]))))

theorem collect_ok {b off n c m : Nat} {L : List HP} (hm : n = 512 * m) (hn : n ≤ 1000000) (hc : n ≤ c) (hc2 : c ≤ 9223372036854775807) {b1 b2 : Nat}
    (h : SatL w (cl b1 27 #[.slice (some ⟨b, off, none⟩) n c] :: cl b2 3 #[.int .i64 512] :: L)) :
    Calls Try.prog 51 #[.func (.func 72) #[] #[.pointer (some ⟨b1, 0, none⟩), .pointer (some ⟨b2, 0, none⟩)]] w
      (Ret fun r w' => SatL w' (Sl 27 r ((List.range m).map (chunkV b off)) :: L)) := by
  have ha := appendseq_ok hm hn hc hc2 h
  go_enter Try.func51, Try.ntmps51
  go_wp2_with (go_at_call 71; (with_reducible refine ha.mono ?_); rintro e w' ⟨v, rfl, hs⟩)
  go_ret
  exact Ret.mk hs
end
end Go.Proofs.Ytjjnadlklfegcaa
