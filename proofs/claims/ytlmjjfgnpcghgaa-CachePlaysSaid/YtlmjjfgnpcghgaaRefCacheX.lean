/- The document's cache that is owned: Fill, Put. No condition beside the sizes that each names. -/
import Derived.Test.YtlmjjfgnpcghgaaRefCacheW
namespace Go.Proofs.Ytlmjjfgnpcghgaa
set_option linter.unusedVariables false
set_option linter.unusedSimpArgs false
open Go.RowKit
/-- a call's answer, and the blocks behind it -/
def RBPost (xb : Nat) (most : Int) (l : List HP) (r : Int × List Blk) (v : Value) (w : World) : Prop := v = .int .i64 r.1 ∧ ∃ row, row.map Ent.blk = r.2 ∧ SatL w (RCacheR xb most row :: l)
section
variable {w : World} {l : List HP} {xb : Nat} {most : Int} {row : List Ent} {rv : Value}
theorem room_blk (most : Int) (row : List Ent) : broom most (row.map Ent.blk) = ((roomS most row).1, (roomS most row).2.map Ent.blk) := by
  unfold broom roomS
  rw [List.length_map]
  split
  · rfl
  · rw [blk_findFree]
    cases row.find? isFree with
    | none => rfl
    | some x => simp only [Option.map_some]; rw [blk_without]; rfl
theorem room_sub (most : Int) (row : List Ent) : ∀ y ∈ (roomS most row).2, y ∈ row := by
  unfold roomS
  split
  · exact fun y h => h
  · cases row.find? isFree with
    | none => exact fun y h => h
    | some x => exact fun y h => (List.mem_filter.1 h).1
theorem room_len (most : Int) (row : List Ent) : (roomS most row).2.length ≤ row.length := by
  unfold roomS
  split
  · exact Nat.le_refl _
  · cases row.find? isFree with
    | none => exact Nat.le_refl _
    | some x => exact List.length_filter_le _ _
theorem room_nodup (most : Int) {row : List Ent} (h : (row.map (·.b)).Nodup) : ((roomS most row).2.map (·.b)).Nodup := by
  unfold roomS
  split
  · exact h
  · cases row.find? isFree with
    | none => exact h
    | some x => exact List.Nodup.sublist (List.Sublist.map _ List.filter_sublist) h
theorem nodup_add {row : List Ent} {x : Ent} (h : (row.map (·.b)).Nodup) (hx : ∀ y ∈ row, ¬ y.b = x.b) : ((row ++ [x]).map (·.b)).Nodup := by
  rw [List.map_append, List.nodup_append]
  refine ⟨h, by simp, ?_⟩
  intro a ha b hb
  obtain ⟨y, hy, rfl⟩ := List.mem_map.1 ha
  simp at hb
  subst hb
  exact hx y hy
set_option maxRecDepth 100000 in
set_option maxHeartbeats 2000000 in
theorem reffill_ok {k : Int} {v : Value} {data : List Value} (h : SatL w (RCacheR xb most row :: Sl 5 v data :: l)) (hlen : row.length ≤ 90000) (hmost : 0 ≤ most ∧ most ≤ 100000)
    (h1 : ∀ y ∈ data, y.oneCell' = true) (hb : data.length ≤ 100000) :
    Calls Try.prog 33 #[.pointer (some ⟨xb, 0, none⟩), .int .i64 k, v] w (Ret (RBPost xb most (Sl 5 v data :: l) (bfill most (row.map Ent.blk) k data))) := by
  obtain ⟨a, c, rfl, ha1, ha2⟩ := Sl.valn (h.pull 1) (m := data.length) rfl
  obtain ⟨rv, hnd, h0⟩ := RCache_open.1 h
  have kb := refbad_ok k a data.length c (by omega) w
  unfold RBPost
  by_cases g1 : k < 0
  · have Hq := hid (show bfill most (row.map Ent.blk) k data = (1, row.map Ent.blk) by simp [bfill, g1])
    rw [if_pos g1] at kb
    have H := hid h
    clear h h0 h1 g1
    go_enter Try.func33, Try.ntmps33
    go_wp2_with (go_at_call 46; (with_reducible refine kb.mono ?_); rintro e w2 ⟨v, rfl, rfl, rfl⟩)
    go_ret
    exact Ret.mk ⟨by rw [Hq.out]; rfl, row, by rw [Hq.out], H.out⟩
  rw [if_neg g1] at kb
  by_cases g2 : data.length = 512
  · rw [if_pos g2] at kb
    have ka := refat_ok (k := k) h0 (by omega)
    cases hf : row.find? (has k) with
    | some x =>
      have Hq := hid (show bfill most (row.map Ent.blk) k data = (8, row.map Ent.blk) by simp only [bfill, g1, g2, blk_find, hf, if_false, ne_eq, not_true, Option.map_some, Option.isSome_some, if_true])
      rw [hf] at ka
      simp only [Option.map_some] at ka
      have H := hid h
      clear h h0 h1 g1 g2 hf
      generalize x.eb = xe at *
      go_enter Try.func33, Try.ntmps33
      go_wp2_with (first
        | (go_at_call 46; (with_reducible refine kb.mono ?_); rintro e w2 ⟨v, rfl, rfl, rfl⟩)
        | (go_at_call 44; (with_reducible refine ka.mono ?_); rintro e w2 ⟨v, rfl, rfl, rfl⟩))
      go_ret
      exact Ret.mk ⟨by rw [Hq.out]; rfl, row, by rw [Hq.out], H.out⟩
    | none =>
      have hq0 : bfill most (row.map Ent.blk) k data = if (roomS most row).1 = 0 then (0, (roomS most row).2.map Ent.blk ++ [⟨k, data, false, 0⟩]) else ((roomS most row).1, (roomS most row).2.map Ent.blk) := by
        have e1 : bfill most (row.map Ent.blk) k data = blay most (row.map Ent.blk) k data := by simp only [bfill, g1, g2, blk_find, hf, if_false, ne_eq, not_true, Option.map_none, Option.isSome_none, Bool.false_eq_true]
        rw [e1]
        unfold blay
        rw [blk_find, hf, Option.map_none]
        simp only
        rw [room_blk]
      rw [hf] at ka
      simp only [Option.map_none] at ka
      have kr := refroom_ok h0 hnd (by omega) hmost
      have hnb : ∀ y ∈ (roomS most row).2, ¬ y.b = k := fun y hy => by simpa [has] using List.find?_eq_none.1 hf y (room_sub most row y hy)
      have hrn := room_nodup most hnd
      have hrl := room_len most row
      generalize roomS most row = R at *
      obtain ⟨re, rr⟩ := R
      simp only at *
      have Hq := hid hq0
      clear h h0 g1 g2 hf hq0 hnd
      by_cases hre : re = 0
      · subst hre
        have Hnb := hid hnb
        have Hrn := hid hrn
        have Hone := hid h1
        clear h1 hnb hrn
        go_enter Try.func33, Try.ntmps33
        go_upto_region 8 with (first
          | (go_at_call 46; (with_reducible refine kb.mono ?_); rintro e w2 ⟨v, rfl, rfl, rfl⟩)
          | (go_at_call 44; (with_reducible refine ka.mono ?_); rintro e w2 ⟨v, rfl, rfl, rfl⟩)
          | (go_at_call 47; (with_reducible refine kr.mono ?_); rintro e w3 ⟨v, rfl, rfl, rv3, h3⟩))
        clear kb ka kr
        obtain ⟨a3, c3, rfl, a31, a32⟩ := Sl.valn (h3.pull 1 : SatL w3 (Sl _ _ _ :: _)) (m := rr.length) (List.length_map _)
        have hc1 := hid (fun (w' : World) (X : List HP) (h : SatL w' (RCacheC xb most (.slice a3 rr.length c3) :: X)) => (⟨h.cell (i := 1) rfl, h.free 1⟩ : w'.cell? ⟨xb, 1, none⟩ = some (.slice a3 rr.length c3) ∧ w'.frozen? ⟨xb, 1, none⟩ = false))
        have h4 := sat_drew.2 h3
        have S4 := (hc1.out _ _ h4).1
        have hK : SatL (w3.drew.alloc (.cells #[] 5)) (SlK 5 1 (.slice (some ⟨w3.drew.heap.size, 0, none⟩) 0 0) 0 [] :: RCacheO xb most (.slice a3 rr.length c3) rr (Sl 5 (.slice a data.length c) data :: l)) :=
          sat_SlK.2 (.inr ⟨w3.drew.heap.size, 0, 0, #[], ⟨rfl, Nat.le_refl _, by decide, rfl, by simp, rfl⟩, h4.allocN _ (by simp)⟩)
        have S5 := (hc1.out _ _ hK.tail).1
        have hsrc := SrcOk.ofSl (P := Try.prog) elem_byte.under (hK.pull 4 : SatL _ (Sl _ _ _ :: _))
        have b1 : (0 + data.length) * 1 ≤ 140737488355328 := by omega
        have b2 : 0 + data.length ≤ maxLen := by unfold maxLen; omega
        have b3 : ((rr.map eptr).length + 1) * 8 ≤ 140737488355328 := by rw [List.length_map]; omega
        clear h3 h4
        refine GoE.start (fun w' => w'.cell? ⟨xb, 1, none⟩ = some (.slice a3 rr.length c3)) 15 16 rfl (by kernel_rfl) ?_
        refine GoE.take (i := 0) (v := ?_) rfl (by decide) (by kernel_rfl) (by kernel_rfl) (by kernel_rfl) (by kernel_rfl) (fun _ _ _ h => h) (by rfl) ?_ (by assumption) ?_
        rotate_left
        · intro w hSw; (try dsimp only at hSw); go_simp; try (with_reducible rfl)
        try simp only [Act.put, List.setIfInBounds_toArray, List.set_cons_zero, List.set_cons_succ]
        refine GoE.take (i := 1) (v := ?_) rfl (by decide) (by kernel_rfl) (by kernel_rfl) (by kernel_rfl) (by kernel_rfl) (fun _ _ _ h => h) (by rfl) ?_ (by assumption) ?_
        rotate_left
        · intro w hSw; (try dsimp only at hSw); go_simp; try (with_reducible rfl)
        try simp only [Act.put, List.setIfInBounds_toArray, List.set_cons_zero, List.set_cons_succ]
        refine GoE.take (i := 2) (v := ?_) rfl (by decide) (by kernel_rfl) (by kernel_rfl) (by kernel_rfl) (by kernel_rfl) (fun _ _ _ h => h) (by rfl) ?_ (by assumption) ?_
        rotate_left
        · intro w hSw; (try dsimp only at hSw); go_simp; try (with_reducible rfl)
        try simp only [Act.put, List.setIfInBounds_toArray, List.set_cons_zero, List.set_cons_succ]
        refine GoE.take (i := 3) (v := ?_) rfl (by decide) (by kernel_rfl) (by kernel_rfl) (by kernel_rfl) (by kernel_rfl) (fun _ _ _ h => h) (by rfl) ?_ (by assumption) ?_
        rotate_left
        · intro w hSw; (try dsimp only at hSw); go_simp; try (with_reducible rfl)
        try simp only [Act.put, List.setIfInBounds_toArray, List.set_cons_zero, List.set_cons_succ]
        refine GoE.take (i := 4) (v := ?_) rfl (by decide) (by kernel_rfl) (by kernel_rfl) (by kernel_rfl) (by kernel_rfl) (fun _ _ _ h => h) (by rfl) ?_ (by assumption) ?_
        rotate_left
        · intro w hSw; (try dsimp only at hSw); go_simp; try (with_reducible rfl)
        try simp only [Act.put, List.setIfInBounds_toArray, List.set_cons_zero, List.set_cons_succ]
        refine GoE.take (i := 5) (v := ?_) rfl (by decide) (by kernel_rfl) (by kernel_rfl) (by kernel_rfl) (by kernel_rfl) (fun _ _ _ h => h) (by rfl) ?_ (by assumption) ?_
        rotate_left
        · intro w hSw; (try dsimp only at hSw); go_simp; try (with_reducible rfl)
        try simp only [Act.put, List.setIfInBounds_toArray, List.set_cons_zero, List.set_cons_succ]
        refine GoE.take (i := 7) (v := ?_) rfl (by decide) (by kernel_rfl) (by kernel_rfl) (by kernel_rfl) (by kernel_rfl) (fun _ _ _ h => h) (by rfl) ?_ (by assumption) ?_
        rotate_left
        · intro w hSw; (try dsimp only at hSw); go_simp; try (with_reducible rfl)
        try simp only [Act.put, List.setIfInBounds_toArray, List.set_cons_zero, List.set_cons_succ]
        refine GoE.one (i := 6) rfl (by kernel_rfl) (fun K hK1 => ?_)
        go_simp
        refine hK1.out _ _ (fun _ => S5) ?_
        clear hK1 K
        try simp only [Act.put, List.setIfInBounds_toArray, List.set_cons_zero, List.set_cons_succ]
        refine GoE.one (i := 8) rfl (by kernel_rfl) (fun K hK1 => ?_)
        refine step_append_sl rfl (.tmp 28) (.tmp 29) rfl elem_byte rfl hK rfl hsrc Hone.out b1 b2 ?_
        intro v5 w5 h5 _
        obtain ⟨a5, n5, c5, rfl⟩ := SlK.val h5
        have S6 := (hc1.out _ _ h5.tail).1
        refine hK1.out _ _ (fun _ => S6) ?_
        clear hK1 K hK hsrc S4 S5
        try simp only [Act.put, List.setIfInBounds_toArray, List.set_cons_zero, List.set_cons_succ]
        refine GoE.take (i := 9) (v := ?_) rfl (by decide) (by kernel_rfl) (by kernel_rfl) (by kernel_rfl) (by kernel_rfl) (fun _ _ _ h => h) (by rfl) ?_ (by assumption) ?_
        rotate_left
        · intro w hSw; (try dsimp only at hSw); go_simp; try (with_reducible rfl)
        try simp only [Act.put, List.setIfInBounds_toArray, List.set_cons_zero, List.set_cons_succ]
        have h6 := Sl.ofK h5
        rw [List.nil_append] at h6
        have h7 := h6.alloc (.cells #[.int .i64 k, .slice a5 n5 c5, .bool false, .int .i64 0] 69)
        have S7 := (hc1.out _ _ h7.tail.tail).1
        refine GoE.one (i := 10) rfl (by kernel_rfl) (fun K hK1 => ?_)
        go_simp
        refine hK1.out _ _ (fun _ => S7) ?_
        clear hK1 K
        try simp only [Act.put, List.setIfInBounds_toArray, List.set_cons_zero, List.set_cons_succ]
        have h8 : SatL _ (cl (w5.heap.size + 1) 70 #[.pointer (some ⟨w5.heap.size, 0, none⟩)] :: _) := h7.allocN (.cells #[.pointer (some ⟨w5.heap.size, 0, none⟩)] 70) (by simp)
        have S8 := (hc1.out _ _ h8.tail.tail.tail).1
        refine GoE.one (i := 11) rfl (by kernel_rfl) (fun K hK1 => ?_)
        go_simp
        refine hK1.out _ _ (fun _ => S8) ?_
        clear hK1 K
        try simp only [Act.put, List.setIfInBounds_toArray, List.set_cons_zero, List.set_cons_succ]
        have hp : SatL _ (SlK 70 1 (.slice a3 rr.length c3) rr.length (rr.map eptr) :: _) := Sl.toK (h8.pull 4 : SatL _ (Sl _ _ _ :: _)) (List.length_map _)
        have hsrc := SrcOk.ofCl (P := Try.prog) (n := 1) (k := 1) elem_rptr.under (h8 : SatL _ (cl _ _ _ :: _)) (by rfl) 1
        refine GoE.one (i := 12) rfl (by kernel_rfl) (fun K hK1 => ?_)
        refine step_append_sl rfl (.tmp 26) (.tmp 33) rfl elem_rptr rfl hp rfl hsrc (by intro y hy; simp at hy; subst hy; rfl) (by omega) (by unfold maxLen; omega) ?_
        intro v9 w9 h9 _
        obtain ⟨a9, n9, c9, rfl⟩ := SlK.val h9
        obtain ⟨S9, f9⟩ := hc1.out _ _ (h9.pull 4)
        refine hK1.out _ _ (fun _ => S9) ?_
        clear hK1 K S6 S7 S8
        try simp only [Act.put, List.setIfInBounds_toArray, List.set_cons_zero, List.set_cons_succ]
        refine GoE.take (i := 13) (v := ?_) rfl (by decide) (by kernel_rfl) (by kernel_rfl) (by kernel_rfl) (by kernel_rfl) (fun _ _ _ h => h) (by rfl) ?_ (by assumption) ?_
        rotate_left
        · intro w hSw; (try dsimp only at hSw); go_simp; try (with_reducible rfl)
        try simp only [Act.put, List.setIfInBounds_toArray, List.set_cons_zero, List.set_cons_succ]
        refine GoE.take (i := 14) (v := ?_) rfl (by decide) (by kernel_rfl) (by kernel_rfl) (by kernel_rfl) (by kernel_rfl) (fun _ _ _ h => h) (by rfl) ?_ (by assumption) ?_
        rotate_left
        · intro w hSw; (try dsimp only at hSw); go_simp; try (with_reducible rfl)
        try simp only [Act.put, List.setIfInBounds_toArray, List.set_cons_zero, List.set_cons_succ]
        refine GoE.one (i := 15) rfl (by kernel_rfl) (fun K hK => ?_)
        go_simp
        refine hK.out _ _ (fun h => absurd rfl h) ?_
        clear hK K
        try simp only [Act.put, List.setIfInBounds_toArray, List.set_cons_zero, List.set_cons_succ]
        refine GoE.done (by kernel_rfl) ?_
        have h10 := (h9.pull 4 : SatL w9 (cl _ _ _ :: _)).set (i := 1) (.slice a9 n9 c9)
        obtain ⟨x, hx⟩ : ∃ x : Ent, x = ⟨w5.heap.size, k, .slice a5 n5 c5, data, false, 0⟩ := ⟨_, rfl⟩
        have e9 : rr.map eptr ++ [.pointer (some ⟨w5.heap.size, 0, none⟩)] = (rr ++ [x]).map eptr := by rw [hx, List.map_append]; rfl
        have h11 := SatL.tail (h10.bring [2, 3, 4, 5, 0, 1, 6])
        have h12 : SatL (w9.setCell ⟨xb, 1, none⟩ (.slice a9 n9 c9)) (REntC x :: Sl 5 x.dv x.data :: RR rr :: RCacheC xb most (.slice a9 n9 c9) :: SlK 70 1 (.slice a9 n9 c9) (rr.length + 1) (rr.map eptr ++ [.pointer (some ⟨w5.heap.size, 0, none⟩)]) :: Sl 5 (.slice a data.length c) data :: l) := by rw [hx]; exact h11
        rw [e9] at h12
        have h13 := big_perm (List.perm_append_comm (l₁ := [x])) (big_cons.2 (REntR_open.2 h12))
        have h14 := Sl.ofK (h13.bring [2, 1, 0, 3])
        have hfin := (RCache_open.2 ⟨_, nodup_add Hrn.out (fun y hy => by rw [hx]; exact Hnb.out y hy), h14.swap⟩ : SatL _ (RCacheR xb most (rr ++ [x]) :: _))
        have Hfin := hid hfin
        have Hbk := hid (show (rr ++ [x]).map Ent.blk = rr.map Ent.blk ++ [⟨k, data, false, 0⟩] by rw [hx, List.map_append]; rfl)
        clear h5 h6 h7 h8 h9 h10 h11 h12 h13 h14 hp hsrc hfin e9 hx S9 f9
        go_wp2
        go_ret
        exact Ret.mk ⟨by rw [Hq.out]; rfl, rr ++ [x], by rw [Hq.out]; simp only [if_true]; exact Hbk.out, Hfin.out⟩
      · have hr2 : (re == 0) = false := by simpa using hre
        rw [if_neg hre] at Hq
        have Hrn := hid hrn
        clear hre h1 hnb hrn
        go_enter Try.func33, Try.ntmps33
        go_wp2_with (first
          | (go_at_call 46; (with_reducible refine kb.mono ?_); rintro e w2 ⟨v, rfl, rfl, rfl⟩)
          | (go_at_call 44; (with_reducible refine ka.mono ?_); rintro e w2 ⟨v, rfl, rfl, rfl⟩)
          | (go_at_call 47; (with_reducible refine kr.mono ?_); rintro e w3 ⟨v, rfl, rfl, rv3, h3⟩))
        go_ret
        exact Ret.mk ⟨by rw [Hq.out]; rfl, rr, by rw [Hq.out], RCache_open.2 ⟨rv3, Hrn.out, h3⟩⟩
  · rw [if_neg g2] at kb
    have Hq := hid (show bfill most (row.map Ent.blk) k data = (14, row.map Ent.blk) by simp [bfill, g1, g2])
    have H := hid h
    clear h h0 h1 g1 g2
    go_enter Try.func33, Try.ntmps33
    go_wp2_with (go_at_call 46; (with_reducible refine kb.mono ?_); rintro e w2 ⟨v, rfl, rfl, rfl⟩)
    go_ret
    exact Ret.mk ⟨by rw [Hq.out]; rfl, row, by rw [Hq.out], H.out⟩
end
end Go.Proofs.Ytlmjjfgnpcghgaa
