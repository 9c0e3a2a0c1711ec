/- The document's disk: Platter, Dirty. No condition beside the sizes that it names. -/
import Derived.Test.YtjjiljijcigekaaRefDiskR
namespace Go.Proofs.Ytjjiljijcigekaa
set_option linter.unusedVariables false
set_option linter.unusedSimpArgs false
open Go.RowKit
section
variable {w : World} {L : List HP} {xb : Nat} {s : Dsk}
set_option maxRecDepth 100000 in
set_option maxHeartbeats 4000000 in
theorem refplatter_ok {i : Nat} (hi : i < s.n) (h : SatL w (RDsk xb s :: L)) :
    Calls Try.prog 35 #[.pointer (some ⟨xb, 0, none⟩), .int .i64 i] w (Ret fun r w' => ∃ v, r = .tuple #[v, .int .i64 0] ∧ SatL w' (SlB 5 v (s.P i) :: RDsk xb s :: L)) := by
  obtain ⟨lv, bs, ok, h1⟩ := sat_RDsk.1 h
  clear h
  have c0 := SatL.cell h1 (i := 0) (v := .int .i64 s.n) rfl
  have e2 : ¬ (i : Int) < 0 := by omega
  have e3 : ¬ (s.n : Int) ≤ (i : Int) := by omega
  have hpl := ok.pl i hi
  by_cases hm : i ∈ bs.map (·.k)
  · obtain ⟨b, hbm, rfl⟩ := List.mem_map.1 hm
    have hat := at_some ok hbm h1
    obtain ⟨_, k1, _⟩ := bk_cells hbm (SatL.pull h1 2 : SatL w (big _ _ :: _))
    obtain ⟨hst, _⟩ := bk_rd hbm (SatL.pull h1 2 : SatL w (big _ _ :: _))
    have h2 := h1.alloc (.cells #[] 5)
    have h4 : SatL (w.alloc (.cells #[] 5)) (SlK 5 1 (.slice (some ⟨w.heap.size, 0, none⟩) 0 0) 0 [] :: _) :=
      sat_SlK.2 (.inr ⟨w.heap.size, 0, 0, #[], ⟨rfl, Nat.le_refl _, by decide, rfl, by simp, rfl⟩, h2⟩)
    have hsrc := SrcOk.ofRdB (bk_rd hbm (SatL.pull h2 3 : SatL _ (big _ _ :: _))).1
    obtain ⟨_, k2, _⟩ := bk_cells hbm (SatL.pull h2 3 : SatL _ (big _ _ :: _))
    rw [hpl] at hsrc
    have h6 : (0 + 512) * 1 ≤ 140737488355328 := by omega
    have h7 : 0 + 512 ≤ maxLen := by unfold maxLen; omega
    have Ok := hid ok
    clear ok hm hpl hst h2
    go_enter Try.func35, Try.ntmps35
    go_wp2_with (first
      | (go_at_call 36; (with_reducible refine hat.mono ?_); rintro e w' ⟨v, rfl, rfl, rfl⟩)
      | (at_builtin; refine wpList_append_sl rfl (.tmp 23) (.tmp 27) rfl elem_byte rfl h4 rfl hsrc (bvs_one _) h6 h7 ?_; intro v9 w9 h9 _))
    go_ret2
    rw [List.nil_append] at h9
    have h10 := (Sl.ofK h9 : SatL w9 (SlB 5 v9 (s.P b.k) :: _))
    exact Ret.mk ⟨_, rfl, SatL.swap (sat_RDsk.2 ⟨_, _, Ok.out, h10.bring [1, 2, 3, 0]⟩)⟩
  · have hat := at_none ok hm h1
    have hoff := (ok.off i hi hm).1
    have hzb := bvs_zeros 512
    rw [← hoff] at hzb
    have Hzb := hid hzb
    have Ok := hid ok
    clear ok hm hpl hoff hzb
    generalize s.P i = Pi at *
    go_enter Try.func35, Try.ntmps35
    go_wp2_with (first
      | (go_at_call 36; (with_reducible refine hat.mono ?_); rintro e w' ⟨v, rfl, rfl, rfl⟩)
      | (refine wpList_make_sl rfl (.const (.int .i64 512)) (.const (.int .i64 512)) rfl elem_byte 512 rfl rfl h1 (by omega) (by omega) ?_; intro w9 h9; rw [← Hzb.out] at h9))
    go_ret2
    have h10 := (h9 : SatL w9 (SlB 5 _ Pi :: _))
    exact Ret.mk ⟨_, rfl, SatL.swap (sat_RDsk.2 ⟨_, _, Ok.out, h10.bring [1, 2, 3, 0]⟩)⟩
theorem dirty_snoc (s : Dsk) (j : Nat) : ((List.range (j + 1)).filter fun i => !(s.V i).isEmpty) = ((List.range j).filter fun i => !(s.V i).isEmpty) ++ (if s.V j = [] then [] else [j]) := by
  rw [List.range_succ, List.filter_append]
  congr 1
  by_cases h : s.V j = []
  · rw [if_pos h]; simp [h]
  · rw [if_neg h]; simp [h]
set_option maxRecDepth 100000 in
set_option maxHeartbeats 4000000 in
theorem refdirty_ok (h : SatL w (RDsk xb s :: L)) :
    Calls Try.prog 32 #[.pointer (some ⟨xb, 0, none⟩)] w (Ret fun r w' => SatL w' (Sl 3 r (s.dirty.map (Value.int .i64)) :: RDsk xb s :: L)) := by
  obtain ⟨lv, bs, ok, h1⟩ := sat_RDsk.1 h
  clear h
  have hb := ok.bd
  have Ok := hid ok
  clear ok
  go_enter Try.func32, Try.ntmps32
  go_wp2
  go_loopw [3, 4] (fun out v wr => ∃ j : Nat, j ≤ s.n ∧ v = .int .i64 j ∧ SatL wr (Sl 3 out ((((List.range j).filter fun i => !(s.V i).isEmpty).map fun i : Nat => (i : Int)).map (Value.int .i64)) :: cl xb 54 #[.int .i64 s.n, lv] :: Sl 76 lv (bs.map bptr) :: big (BkR s) bs :: L)) (fun _ v _ => s.n - (intOf v).toNat)
  case atStart => exact ⟨0, by omega, rfl, Sl_nil h1⟩
  case round =>
    clear h1
    obtain ⟨j, hj, rfl, hs⟩ := hrel
    have c0 := SatL.cell (SatL.pull hs 1 : SatL wr (cl _ _ _ :: _)) (i := 0) (v := .int .i64 s.n) rfl
    have hs2 := hs.bring [1, 2, 3, 0]
    by_cases hlt : j < s.n
    · have hjz : (j : Int) < (s.n : Int) := by omega
      have hsn := dirty_snoc s j
      have hfl : ((((List.range j).filter fun i => !(s.V i).isEmpty).map fun i : Nat => (i : Int)).map (Value.int .i64)).length ≤ j := by
        rw [List.length_map, List.length_map]
        exact Nat.le_trans (List.length_filter_le _ _) (by rw [List.length_range]; exact Nat.le_refl _)
      have b1 : (((((List.range j).filter fun i => !(s.V i).isEmpty).map fun i : Nat => (i : Int)).map (Value.int .i64)).length + 1) * 8 ≤ 140737488355328 := by omega
      by_cases hv : s.V j = []
      · rw [if_pos hv, List.append_nil] at hsn
        have Hsn := hid hsn
        by_cases hm : j ∈ bs.map (·.k)
        · obtain ⟨b, hbm, rfl⟩ := List.mem_map.1 hm
          have hat := at_some Ok.out hbm hs2
          obtain ⟨_, _, k2⟩ := bk_cells hbm (SatL.pull hs2 2 : SatL wr (big _ _ :: _))
          obtain ⟨_, va, vc, hvv, _⟩ := bk_rd hbm (SatL.pull hs2 2 : SatL wr (big _ _ :: _))
          rw [hvv, hv] at k2
          have k3 : wr.cell? ⟨b.p, 2, none⟩ = some (.slice va 0 vc) := k2
          have hs3 := hs
          clear hsn hfl hv hm hvv k2 hs hs2
          go_wp2_with (first
            | (go_at_call 36; (with_reducible refine hat.mono ?_); rintro e w' ⟨v, rfl, rfl, rfl⟩))
          go_roundw
          case rel => exact ⟨b.k + 1, by omega, by go_num, by rw [Hsn.out]; exact hs3⟩
          case measure => simp [intOf]; omega
        · have hat := at_none Ok.out hm hs2
          have hs3 := hs
          clear hsn hfl hv hm hs hs2
          go_wp2_with (first
            | (go_at_call 36; (with_reducible refine hat.mono ?_); rintro e w' ⟨v, rfl, rfl, rfl⟩))
          go_roundw
          case rel => exact ⟨j + 1, by omega, by go_num, by rw [Hsn.out]; exact hs3⟩
          case measure => simp [intOf]; omega
      · rw [if_neg hv] at hsn
        have hm : j ∈ bs.map (·.k) := by
          rcases Classical.em (j ∈ bs.map (·.k)) with h | h
          · exact h
          · exact absurd (Ok.out.off j hlt h).2 hv
        obtain ⟨b, hbm, rfl⟩ := List.mem_map.1 hm
        have hat := at_some Ok.out hbm hs2
        obtain ⟨_, _, k2⟩ := bk_cells hbm (SatL.pull hs2 2 : SatL wr (big _ _ :: _))
        obtain ⟨_, va, vc, hvv, _⟩ := bk_rd hbm (SatL.pull hs2 2 : SatL wr (big _ _ :: _))
        rw [hvv] at k2
        have hl0 : 0 < (s.V b.k).length := List.length_pos_iff.2 hv
        have hlz : (0 : Int) < ((s.V b.k).length : Int) := by omega
        have Hsn := hid hsn
        have hs3 := hs
        clear hsn hfl hv hm hvv hs hs2
        go_wp2_with (first
          | (go_at_call 36; (with_reducible refine hat.mono ?_); rintro e w' ⟨v, rfl, rfl, rfl⟩)
          | (at_builtin; refine wpList_push_sl rfl (.tmp 27) (.tmp 29) rfl elem_int (by omega) rfl hs3 rfl rfl b1 ?_; intro v9 w9 h9))
        go_roundw
        case rel => exact ⟨b.k + 1, by omega, by go_num, by rw [Hsn.out, List.map_append, List.map_append]; exact h9⟩
        case measure => simp [intOf]; omega
    · obtain rfl : j = s.n := by omega
      have hR := SatL.swap (sat_RDsk.2 ⟨_, _, Ok.out, hs2⟩)
      clear hs hs2
      go_wp2
      go_ret
      exact Ret.mk hR
end
end Go.Proofs.Ytjjiljijcigekaa
