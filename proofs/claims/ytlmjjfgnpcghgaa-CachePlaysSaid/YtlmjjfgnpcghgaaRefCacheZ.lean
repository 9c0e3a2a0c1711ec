/- The document's cache that is owned: Put. No condition beside the sizes that it names. -/
import Derived.Test.YtlmjjfgnpcghgaaRefCacheX
namespace Go.Proofs.Ytlmjjfgnpcghgaa
set_option linter.unusedVariables false
set_option linter.unusedSimpArgs false
open Go.RowKit
section
variable {w : World} {l : List HP} {xb : Nat} {most : Int} {row : List Ent} {rv : Value}
theorem bupd_last {r : List Ent} {k : Int} {f : Blk → Blk} {b0 : Blk} (hr : ∀ y ∈ r, ¬ y.b = k) (hb : b0.b = k) : bupd (r.map Ent.blk ++ [b0]) k f = r.map Ent.blk ++ [f b0] := by
  unfold bupd
  rw [List.map_append, List.map_map]
  congr 1
  · apply List.map_congr_left
    intro y hy
    have := hr y hy
    simp [Ent.blk, this]
  · simp [hb]
theorem outE_new {nb : Nat} {cs : Array Value} (h : SatL w (RR row :: cl nb 69 cs :: l)) : outE row nb = row := by
  unfold outE
  rw [List.filter_eq_self]
  intro y hy
  obtain ⟨a, b, hab⟩ := List.append_of_mem hy
  rw [hab] at h
  have h2 := REntR_open.1 (big_mid.1 h)
  have h3 : SatL w (REntC y :: cl nb _ _ :: _) := h2.bring [0, 3]
  have := SatL.ne h3
  simp; exact this
set_option maxRecDepth 100000 in
set_option maxHeartbeats 2000000 in
theorem refput_ok {k : Int} {v : Value} {data : List Value} (h : SatL w (RCacheR xb most row :: Sl 5 v data :: l)) (hlen : row.length ≤ 90000) (hmost : 0 ≤ most ∧ most ≤ 100000)
    (h1 : ∀ y ∈ data, y.oneCell' = true) (hb : data.length ≤ 100000) :
    Calls Try.prog 34 #[.pointer (some ⟨xb, 0, none⟩), .int .i64 k, v] w (Ret (RBPost xb most (Sl 5 v data :: l) (bput most (row.map Ent.blk) k data))) := by
  obtain ⟨a, c, rfl, ha1, ha2⟩ := Sl.valn (h.pull 1) (m := data.length) rfl
  obtain ⟨rv, hnd, h0⟩ := RCache_open.1 h
  have kb := refbad_ok k a data.length c (by omega) w
  unfold RBPost
  by_cases g1 : k < 0
  · have Hq := hid (show bput most (row.map Ent.blk) k data = (1, row.map Ent.blk) by simp [bput, g1])
    rw [if_pos g1] at kb
    have H := hid h
    clear h h0 h1 g1
    go_enter Try.func34, Try.ntmps34
    go_wp2_with (go_at_call 46; (with_reducible refine kb.mono ?_); rintro e w2 ⟨v, rfl, rfl, rfl⟩)
    go_ret
    exact Ret.mk ⟨by rw [Hq.out]; rfl, row, by rw [Hq.out], H.out⟩
  rw [if_neg g1] at kb
  by_cases g2 : data.length = 512
  · rw [if_pos g2] at kb
    have ka := refat_ok (k := k) h0 (by omega)
    have hq0 : bput most (row.map Ent.blk) k data = if (blay most (row.map Ent.blk) k data).1 = 0 then (0, bupd (blay most (row.map Ent.blk) k data).2 k fun x => { x with dirty := true }) else blay most (row.map Ent.blk) k data := by simp only [bput, g1, g2, if_false, ne_eq, not_true]
    have b1 : (0 + data.length) * 1 ≤ 140737488355328 := by omega
    have b2 : 0 + data.length ≤ maxLen := by unfold maxLen; omega
    cases hf : row.find? (has k) with
    | some x =>
      obtain ⟨hx, r1, r2, hrow, f1, f2⟩ := find_split hnd hf
      have hbl : blay most (row.map Ent.blk) k data = (0, (r1 ++ r2).map Ent.blk ++ [⟨x.b, data, x.dirty, x.pins⟩]) := by
        unfold blay
        rw [blk_find, hf, Option.map_some]
        simp only
        rw [← blk_without, hrow, ← hx, without_mid (fun y hy e => f1 y hy (by rw [e, hx])) (fun y hy e => f2 y hy (by rw [e, hx]))]
        rfl
      rw [hbl] at hq0
      simp only [if_true] at hq0
      have hup : bupd ((r1 ++ r2).map Ent.blk ++ [⟨x.b, data, x.dirty, x.pins⟩]) k (fun x => { x with dirty := true }) = (r1 ++ r2).map Ent.blk ++ [⟨x.b, data, true, x.pins⟩] :=
        bupd_last (fun y hy => by rcases List.mem_append.1 hy with h | h; exact f1 y h; exact f2 y h) hx
      rw [hup] at hq0
      rw [hf] at ka
      simp only [Option.map_some] at ka
      subst hrow
      have hs := rfocus.1 h0
      have hnl := hid (nodup_lose hnd)
      have Hone := hid h1
      have Hq := hid hq0
      have hK : SatL (w.alloc (.cells #[] 5)) (SlK 5 1 (.slice (some ⟨w.heap.size, 0, none⟩) 0 0) 0 [] :: REntC x :: Sl 5 x.dv x.data :: RCacheC xb most rv :: RPtrs rv (r1 ++ x :: r2) :: RR (r1 ++ r2) :: Sl 5 (.slice a data.length c) data :: l) :=
        sat_SlK.2 (.inr ⟨w.heap.size, 0, 0, #[], ⟨rfl, Nat.le_refl _, by decide, rfl, by simp, rfl⟩, hs.allocN _ (by simp)⟩)
      have hsrc := SrcOk.ofSl (P := Try.prog) elem_byte.under (hK.pull 6 : SatL _ (Sl _ _ _ :: _))
      have hxc := hid (fun (w' : World) (X : List HP) (h : SatL w' (REntC x :: X)) => (⟨⟨_, h.cell (i := 1) rfl⟩, h.free 1, ⟨_, h.cell (i := 2) rfl⟩, h.free 2⟩ : (∃ u, w'.cell? ⟨x.eb, 1, none⟩ = some u) ∧ w'.frozen? ⟨x.eb, 1, none⟩ = false ∧ (∃ u, w'.cell? ⟨x.eb, 2, none⟩ = some u) ∧ w'.frozen? ⟨x.eb, 2, none⟩ = false))
      clear h h0 h1 g1 g2 hf hq0 hbl hup hnd hs f1 f2 hx
      go_enter Try.func34, Try.ntmps34
      go_upto_region 12 with (first
        | (go_at_call 46; (with_reducible refine kb.mono ?_); rintro e w2 ⟨v, rfl, rfl, rfl⟩)
        | (go_at_call 44; (with_reducible refine ka.mono ?_); rintro e w2 ⟨v, rfl, rfl, rfl⟩)
        | (at_builtin; refine wpList_append_sl rfl (.tmp 29) (.tmp 30) rfl elem_byte rfl hK rfl hsrc Hone.out b1 b2 ?_; intro v5 w5 h5 _; obtain ⟨a5, n5, c5, rfl⟩ := SlK.val h5; obtain ⟨⟨u1, y1⟩, y2, _, _⟩ := hxc.out _ _ (h5.pull 1); have h6 := (h5.pull 1 : SatL w5 (cl _ _ _ :: _)).set (i := 1) (.slice a5 n5 c5); have y3 := SatL.cell (h6 : SatL _ (cl _ _ _ :: _)) (i := 2) (v := .bool x.dirty) rfl; have y4 := SatL.free (h6 : SatL _ (cl _ _ _ :: _)) 2; have h7 := SatL.set (h6 : SatL _ (cl _ _ _ :: _)) (i := 2) (.bool true)))
      clear kb ka hK hsrc hxc y1 y2 y3 y4
      obtain ⟨x', hx'⟩ : ∃ x' : Ent, x' = ⟨x.eb, x.b, .slice a5 n5 c5, data, true, x.pins⟩ := ⟨_, rfl⟩
      have h8 := Sl.ofK (SatL.tail (h7.bring [2, 1, 0, 3, 4, 5, 6]))
      rw [List.nil_append] at h8
      have e4 : (r1 ++ x :: r2).map eptr = (r1 ++ x' :: r2).map eptr := by rw [hx']; simp [eptr]
      have h9 : SatL ((w5.setCell ⟨x.eb, 1, none⟩ (.slice a5 n5 c5)).setCell ⟨x.eb, 2, none⟩ (.bool true)) (REntC x' :: Sl 5 x'.dv x'.data :: RCacheC xb most rv :: Sl 70 rv ((r1 ++ x :: r2).map eptr) :: RR (r1 ++ r2) :: Sl 5 (.slice a data.length c) data :: l) := by rw [hx']; exact h8.swap
      rw [e4] at h9
      have h10 := rfocus.2 h9
      have hlen' : (r1 ++ x' :: r2).length ≤ 100000 := by
        have : (r1 ++ x' :: r2).length = (r1 ++ x :: r2).length := by simp
        omega
      have ku := refuse_ok (xe := x'.eb) h10 hlen' (rblk_row (by simp))
      have hfin := hid (fun (w' : World) (rv' : Value) (h : SatL w' (RCacheC xb most rv' :: Sl 70 rv' ((outE (r1 ++ x' :: r2) x'.eb).map eptr ++ [.pointer (some ⟨x'.eb, 0, none⟩)]) :: RR (r1 ++ x' :: r2) :: Sl 5 (.slice a data.length c) data :: l)) => (RCache_open.2 ⟨rv', by have := hnl.out.2; rw [List.map_append] at this ⊢; rw [hx']; exact this, rused h⟩ : SatL w' (RCacheR xb most (r1 ++ r2 ++ [x']) :: _)))
      have Hbk := hid (show (r1 ++ r2 ++ [x']).map Ent.blk = (r1 ++ r2).map Ent.blk ++ [⟨x.b, data, true, x.pins⟩] by rw [hx', List.map_append (l₂ := [_])]; rfl)
      rw [show x'.eb = x.eb by rw [hx']] at ku hfin
      clear h5 h6 h7 h8 h9 h10 e4 hx'
      go_wp2_with (go_at_call 45; (with_reducible refine ku.mono ?_); rintro e3 w3 ⟨v, rfl, rfl, rv3, h3⟩)
      go_ret
      exact Ret.mk ⟨by rw [Hq.out]; rfl, r1 ++ r2 ++ [x'], by rw [Hq.out]; exact Hbk.out, hfin.out _ _ h3⟩
    | none =>
      have hbl : blay most (row.map Ent.blk) k data = if (roomS most row).1 = 0 then (0, (roomS most row).2.map Ent.blk ++ [⟨k, data, false, 0⟩]) else ((roomS most row).1, (roomS most row).2.map Ent.blk) := by
        unfold blay
        rw [blk_find, hf, Option.map_none]
        simp only
        rw [room_blk]
      rw [hbl] at hq0
      rw [hf] at ka
      simp only [Option.map_none] at ka
      have kr := refroom_ok h0 hnd (by omega) hmost
      have hnb : ∀ y ∈ (roomS most row).2, ¬ y.b = k := fun y hy => by simpa [has] using List.find?_eq_none.1 hf y (room_sub most row y hy)
      have hrn := room_nodup most hnd
      have hrl := room_len most row
      generalize roomS most row = R at *
      obtain ⟨re, rr⟩ := R
      simp only at *
      clear h h0 g1 g2 hf hnd hbl
      by_cases hre : re = 0
      · subst hre
        simp only [if_true] at hq0
        rw [bupd_last hnb rfl] at hq0
        have Hq := hid hq0
        have Hnb := hid hnb
        have Hrn := hid hrn
        have Hone := hid h1
        clear h1 hnb hrn hq0
        go_enter Try.func34, Try.ntmps34
        go_upto_region 10 with (first
          | (go_at_call 46; (with_reducible refine kb.mono ?_); rintro e w2 ⟨v, rfl, rfl, rfl⟩)
          | (go_at_call 44; (with_reducible refine ka.mono ?_); rintro e w2 ⟨v, rfl, rfl, rfl⟩)
          | (go_at_call 47; (with_reducible refine kr.mono ?_); rintro e w3 ⟨v, rfl, rfl, rv3, h3⟩))
        clear kb ka kr
        have h4 := h3.alloc (.cells #[.int .i64 k, .slice none 0 0, .bool false, .int .i64 0] 69)
        obtain ⟨w4, hw4⟩ : ∃ w4, w4 = w3.alloc (.cells #[.int .i64 k, .slice none 0 0, .bool false, .int .i64 0] 69) := ⟨_, rfl⟩
        rw [← hw4] at h4 ⊢
        clear hw4 h3
        generalize w3.heap.size = nb at *
        have hK : SatL (w4.alloc (.cells #[] 5)) (SlK 5 1 (.slice (some ⟨w4.heap.size, 0, none⟩) 0 0) 0 [] :: cl nb 69 #[.int .i64 k, .slice none 0 0, .bool false, .int .i64 0] :: RCacheO xb most rv3 rr (Sl 5 (.slice a data.length c) data :: l)) :=
          sat_SlK.2 (.inr ⟨w4.heap.size, 0, 0, #[], ⟨rfl, Nat.le_refl _, by decide, rfl, by simp, rfl⟩, h4.allocN _ (by simp)⟩)
        have hsrc := SrcOk.ofSl (P := Try.prog) elem_byte.under (hK.pull 5 : SatL _ (Sl _ _ _ :: _))
        clear h4
        go_upto_region 12 with (at_builtin; refine wpList_append_sl rfl (.tmp 29) (.tmp 30) rfl elem_byte rfl hK rfl hsrc Hone.out b1 b2 ?_; intro v5 w5 h5 _; obtain ⟨a5, n5, c5, rfl⟩ := SlK.val h5; have y1 := SatL.cell (h5.pull 1 : SatL w5 (cl _ _ _ :: _)) (i := 1) (v := .slice none 0 0) rfl; have y2 := SatL.free (h5.pull 1 : SatL w5 (cl _ _ _ :: _)) 1; have h6 := (h5.pull 1 : SatL w5 (cl _ _ _ :: _)).set (i := 1) (.slice a5 n5 c5); have y3 := SatL.cell (h6 : SatL _ (cl _ _ _ :: _)) (i := 2) (v := .bool false) rfl; have y4 := SatL.free (h6 : SatL _ (cl _ _ _ :: _)) 2; have h7 := SatL.set (h6 : SatL _ (cl _ _ _ :: _)) (i := 2) (.bool true))
        clear hK hsrc y1 y2 y3 y4
        obtain ⟨x', hx'⟩ : ∃ x' : Ent, x' = ⟨nb, k, .slice a5 n5 c5, data, true, 0⟩ := ⟨_, rfl⟩
        have h8 := Sl.ofK (h7.bring [1, 0, 2, 3, 4, 5])
        rw [List.nil_append] at h8
        have h9 : SatL ((w5.setCell ⟨nb, 1, none⟩ (.slice a5 n5 c5)).setCell ⟨nb, 2, none⟩ (.bool true)) (Sl 5 x'.dv x'.data :: REntC x' :: RCacheO xb most rv3 rr (Sl 5 (.slice a data.length c) data :: l)) := by rw [hx']; exact h8
        have h10 : SatL ((w5.setCell ⟨nb, 1, none⟩ (.slice a5 n5 c5)).setCell ⟨nb, 2, none⟩ (.bool true)) (RCacheO xb most rv3 rr (REntC x' :: Sl 5 x'.dv x'.data :: Sl 5 (.slice a data.length c) data :: l)) := h9.bring [2, 3, 4, 1, 0]
        have ku := refuse_ok (xe := x'.eb) h10 (by omega) (fun w' h' => ⟨_, (h'.pull 1 : SatL w' (pt _ _ :: _)).heap⟩)
        have hfin := hid (fun (w' : World) (rv' : Value) (h : SatL w' (RCacheC xb most rv' :: Sl 70 rv' ((outE rr x'.eb).map eptr ++ [.pointer (some ⟨x'.eb, 0, none⟩)]) :: RR rr :: REntC x' :: Sl 5 x'.dv x'.data :: Sl 5 (.slice a data.length c) data :: l)) => (by
          rw [outE_new (h.bring [2, 3])] at h
          have e9 : rr.map eptr ++ [.pointer (some ⟨x'.eb, 0, none⟩)] = (rr ++ [x']).map eptr := by rw [List.map_append]; rfl
          rw [e9] at h
          have h13 := big_perm (List.perm_append_comm (l₁ := [x'])) (big_cons.2 (REntR_open.2 (h.bring [3, 4, 2, 0, 1, 5])))
          exact RCache_open.2 ⟨rv', nodup_add Hrn.out (fun y hy => by rw [hx']; exact Hnb.out y hy), h13.bring [1, 2, 0, 3]⟩ : SatL w' (RCacheR xb most (rr ++ [x']) :: Sl 5 (.slice a data.length c) data :: l)))
        have Hbk := hid (show (rr ++ [x']).map Ent.blk = rr.map Ent.blk ++ [⟨k, data, true, 0⟩] by rw [hx', List.map_append]; rfl)
        rw [show x'.eb = nb by rw [hx']] at ku hfin
        clear h5 h6 h7 h8 h9 h10 hx'
        go_wp2_with (go_at_call 45; (with_reducible refine ku.mono ?_); rintro e3 w9 ⟨v, rfl, rfl, rv9, h9⟩)
        go_ret
        exact Ret.mk ⟨by rw [Hq.out]; rfl, rr ++ [x'], by rw [Hq.out]; exact Hbk.out, hfin.out _ _ h9⟩
      · have hr2 : (re == 0) = false := by simpa using hre
        rw [if_neg hre] at hq0
        simp only [hre, if_false] at hq0
        have Hq := hid hq0
        have Hrn := hid hrn
        clear hre h1 hnb hrn hq0
        go_enter Try.func34, Try.ntmps34
        go_wp2_with (first
          | (go_at_call 46; (with_reducible refine kb.mono ?_); rintro e w2 ⟨v, rfl, rfl, rfl⟩)
          | (go_at_call 44; (with_reducible refine ka.mono ?_); rintro e w2 ⟨v, rfl, rfl, rfl⟩)
          | (go_at_call 47; (with_reducible refine kr.mono ?_); rintro e w3 ⟨v, rfl, rfl, rv3, h3⟩))
        go_ret
        exact Ret.mk ⟨by rw [Hq.out]; rfl, rr, by rw [Hq.out], RCache_open.2 ⟨rv3, Hrn.out, h3⟩⟩
  · rw [if_neg g2] at kb
    have Hq := hid (show bput most (row.map Ent.blk) k data = (14, row.map Ent.blk) by simp [bput, g1, g2])
    have H := hid h
    clear h h0 h1 g1 g2
    go_enter Try.func34, Try.ntmps34
    go_wp2_with (go_at_call 46; (with_reducible refine kb.mono ?_); rintro e w2 ⟨v, rfl, rfl, rfl⟩)
    go_ret
    exact Ret.mk ⟨by rw [Hq.out]; rfl, row, by rw [Hq.out], H.out⟩
end
end Go.Proofs.Ytlmjjfgnpcghgaa
