/- The document's cache that is owned: room, Get. No condition beside the sizes that each names. -/
import Derived.Test.YtlmjjfgnpcghgaaRefCacheU
namespace Go.Proofs.Ytlmjjfgnpcghgaa
set_option linter.unusedVariables false
set_option linter.unusedSimpArgs false
open Go.RowKit
theorem sat_dn {w : World} {L : List HP} {n : Nat} : SatL (w.drewN n) L ↔ SatL w L := Iff.rfl
section
variable {w : World} {l : List HP} {xb : Nat} {most : Int} {row : List Ent} {rv : Value}
theorem rlost {r1 r2 : List Ent} {x : Ent} {rv' : Value} (h : SatL w (RCacheC xb most rv' :: RPtrs rv' (outE (r1 ++ x :: r2) x.eb) :: RR (r1 ++ x :: r2) :: l)) : SatL w (RCacheO xb most rv' (r1 ++ r2) l) := by
  rw [outE_mid (h.pull 2)] at h
  have h2 := SatL.tail (big_mid.1 (h.pull 2 : SatL w (RR _ :: _)))
  exact h2.bring [1, 2, 0]
theorem rused {r1 r2 : List Ent} {x : Ent} {rv' : Value} (h : SatL w (RCacheC xb most rv' :: Sl 70 rv' ((outE (r1 ++ x :: r2) x.eb).map eptr ++ [.pointer (some ⟨x.eb, 0, none⟩)]) :: RR (r1 ++ x :: r2) :: l)) : SatL w (RCacheO xb most rv' (r1 ++ r2 ++ [x]) l) := by
  rw [outE_mid (h.pull 2)] at h
  have h2 := big_perm (show (r1 ++ x :: r2).Perm (r1 ++ r2 ++ [x]) from List.perm_middle.trans (List.perm_append_comm (l₁ := [x]))) (h.pull 2 : SatL w (RR _ :: _))
  have h3 := h2.bring [1, 2, 0]
  have e : (r1 ++ r2).map eptr ++ [.pointer (some ⟨x.eb, 0, none⟩)] = (r1 ++ r2 ++ [x]).map eptr := by rw [List.map_append (l₂ := [x])]; rfl
  rw [e] at h3
  exact h3
theorem nodup_lose {r1 r2 : List Ent} {x : Ent} (h : ((r1 ++ x :: r2).map (·.b)).Nodup) : ((r1 ++ r2).map (·.b)).Nodup ∧ ((r1 ++ r2 ++ [x]).map (·.b)).Nodup := by
  have h1 : ((r1 ++ r2 ++ [x]).map (·.b)).Nodup := (((show (r1 ++ x :: r2).Perm (r1 ++ r2 ++ [x]) from List.perm_middle.trans (List.perm_append_comm (l₁ := [x]))).map (·.b)).nodup_iff).1 h
  exact ⟨by rw [List.map_append] at h1; exact (List.nodup_append.1 h1).1, h1⟩
set_option maxRecDepth 100000 in
set_option maxHeartbeats 2000000 in
theorem refroom_ok (h : SatL w (RCacheO xb most rv row l)) (hnd : (row.map (·.b)).Nodup) (hlen : row.length ≤ 100000) (hm : 0 ≤ most ∧ most ≤ 100000) :
    Calls Try.prog 47 #[.pointer (some ⟨xb, 0, none⟩)] w (Ret fun v w' => v = .int .i64 (roomS most row).1 ∧ ∃ rv', SatL w' (RCacheO xb most rv' (roomS most row).2 l)) := by
  obtain ⟨a, c, rfl, ha1, ha2⟩ := Sl.valn (h.pull 1 : SatL w (Sl _ _ _ :: _)) (m := row.length) (List.length_map _)
  have hc1 := hid (fun (w' : World) (X : List HP) (h : SatL w' (RCacheC xb most (.slice a row.length c) :: X)) => (⟨h.cell (i := 0) rfl, h.cell (i := 1) rfl⟩ : w'.cell? ⟨xb, 0, none⟩ = some (.int .i64 most) ∧ w'.cell? ⟨xb, 1, none⟩ = some (.slice a row.length c)))
  obtain ⟨res, hres⟩ : ∃ res, res = roomS most row := ⟨_, rfl⟩
  rw [← hres]
  have Hres := hid hres
  have Hm := hid hm
  obtain ⟨c0, c1⟩ := hc1.out _ _ h
  have H := hid h
  clear hres h hm
  by_cases hl : (row.length : Int) < most
  · have hr := Hres.out
    unfold roomS at hr
    rw [if_pos hl] at hr
    have Hr := hid hr
    have hb : decide ((row.length : Int) < most) = true := decide_eq_true hl
    clear hr hl
    go_enter Try.func47, Try.ntmps47
    go_wp2
    go_quiet (fail)
    have H2 := hid (sat_dn.2 H.out : SatL (w.drewN nq) _)
    clear H
    go_wp2
    go_ret
    exact Ret.mk ⟨by rw [Hr.out]; rfl, _, by rw [Hr.out]; exact H2.out⟩
  · have hr := Hres.out
    unfold roomS at hr
    rw [if_neg hl] at hr
    have Hr := hid hr
    have hb : decide ((row.length : Int) < most) = false := decide_eq_false hl
    have hl2 : ¬ (row.length : Int) < most := hl
    clear hr hl
    go_enter Try.func47, Try.ntmps47
    go_wp2
    go_quiet (fail)
    have H2 := hid (sat_dn.2 H.out : SatL (w.drewN nq) _)
    clear H c0 c1 hb hl2
    generalize w.drewN nq = w1 at *
    go_wp2
    go_loopw [3] (fun i wr => ∃ j : Nat, j ≤ row.length ∧ i = .int .i64 j ∧ (row.take j).find? isFree = none ∧ w1 = wr) (fun i _ => row.length - (intOf i).toNat)
    case atStart => exact ⟨0, by omega, rfl, rfl, rfl⟩
    case round =>
      obtain ⟨j, hj, rfl, hno, rfl⟩ := hrel
      obtain ⟨c0, c1⟩ := hc1.out _ _ H2.out
      by_cases hlt : j < row.length
      · have hjz : (j : Int) < row.length := by omega
        obtain ⟨x, hx⟩ : ∃ x, row[j]? = some x := ⟨_, List.getElem?_eq_getElem hlt⟩
        obtain ⟨b, o, rfl, cp⟩ := rptr_cell hx (H2.out.pull 1)
        obtain ⟨_, _, e2, e3⟩ := rcells hx (H2.out.pull 2)
        by_cases hf : isFree x = true
        · obtain ⟨hd, hp⟩ : x.dirty = false ∧ x.pins = 0 := by simpa [isFree] using hf
          have hff := find_take hno hx hf
          have hr := Hr.out
          rw [hff] at hr
          simp only at hr
          have gx := rblk_row (l := l) (List.mem_of_getElem? hx)
          have kg := refgone_ok (xe := x.eb) H2.out hlen gx
          obtain ⟨r1, r2, hrow⟩ := List.append_of_mem (List.mem_of_getElem? hx)
          have hw : without row x.b = r1 ++ r2 := by
            rw [hrow]
            have hn2 := hnd
            rw [hrow, List.map_append, List.map_cons] at hn2
            have hn3 := (List.perm_middle.nodup_iff).1 hn2
            rw [List.nodup_cons] at hn3
            exact without_mid (fun y hy e => hn3.1 (by rw [← e]; exact List.mem_append_left _ (List.mem_map_of_mem hy))) (fun y hy e => hn3.1 (by rw [← e]; exact List.mem_append_right _ (List.mem_map_of_mem hy)))
          rw [hw] at hr
          have Hr2 := hid hr
          have hfin := hid (fun (w' : World) (rv' : Value) (h : SatL w' (RCacheC xb most rv' :: RPtrs rv' (outE row x.eb) :: RR row :: l)) => (by rw [hrow] at h; exact rlost h : SatL w' (RCacheO xb most rv' (r1 ++ r2) l)))
          rw [hd] at e2
          rw [hp] at e3
          clear hno hx hff hr hf hd hp gx hrow hw
          generalize x.eb = e at *
          go_wp2_with (go_at_call 48; (with_reducible refine kg.mono ?_); rintro e5 w5 ⟨v5, rfl, rfl, rv5, h5⟩)
          go_ret
          exact Ret.mk ⟨by rw [Hr2.out]; rfl, rv5, by rw [Hr2.out]; exact hfin.out _ _ h5⟩
        · have Hno := hid (find_take_succ hno hx (by simpa using hf))
          have hd : x.dirty = true ∨ (x.dirty = false ∧ ¬ x.pins = 0) := by
            cases hd : x.dirty with
            | true => exact .inl rfl
            | false => exact .inr ⟨rfl, fun h => hf (by simp [isFree, hd, h])⟩
          clear hno hx hf
          generalize x.eb = e at *
          generalize x.pins = xp at *
          rcases hd with hd | ⟨hd, hp⟩
          · rw [hd] at e2
            clear hd
            go_wp2
            go_roundw
            case rel => exact ⟨j + 1, by omega, by go_num, Hno.out, trivial⟩
            case measure => simp [intOf]; omega
          · rw [hd] at e2
            have hp2 : (xp == 0) = false := by simpa using hp
            clear hd hp
            go_wp2
            go_roundw
            case rel => exact ⟨j + 1, by omega, by go_num, Hno.out, trivial⟩
            case measure => simp [intOf]; omega
      · obtain rfl : j = row.length := by omega
        rw [List.take_length] at hno
        have hr := Hr.out
        rw [hno] at hr
        simp only at hr
        have Hr2 := hid hr
        clear hno hr
        go_wp2
        go_ret
        exact Ret.mk ⟨by rw [Hr2.out]; rfl, _, by rw [Hr2.out]; exact H2.out⟩
/-- what Get tells: a slice of its own -/
def RGPost (xb : Nat) (most : Int) (l : List HP) (bs : List Blk) (k : Int) (v : Value) (w : World) : Prop :=
  ∃ dv, v = .tuple #[dv, .int .i64 (bget bs k).1] ∧ ∃ row, row.map Ent.blk = (bget bs k).2 ∧ SatL w (Sl 5 dv (bdata bs k) :: RCacheR xb most row :: l)
set_option maxRecDepth 100000 in
set_option maxHeartbeats 2000000 in
theorem refget_ok {k : Int} (h : SatL w (RCacheR xb most row :: l)) (hlen : row.length ≤ 100000) (h1 : ∀ x ∈ row, (∀ y ∈ x.data, y.oneCell' = true) ∧ x.data.length ≤ 100000) :
    Calls Try.prog 32 #[.pointer (some ⟨xb, 0, none⟩), .int .i64 k] w (Ret (RGPost xb most l (row.map Ent.blk) k)) := by
  obtain ⟨rv, hnd, h0⟩ := RCache_open.1 h
  have ka := refat_ok (k := k) h0 hlen
  unfold RGPost
  cases hf : row.find? (has k) with
  | none =>
    rw [hf] at ka
    have Hq := hid (show bget (row.map Ent.blk) k = (17, row.map Ent.blk) ∧ bdata (row.map Ent.blk) k = [] from ⟨by simp only [bget, blk_find, hf, Option.map_none], by simp only [bdata, blk_find, hf, Option.map_none]⟩)
    simp only [Option.map_none] at ka
    have H := hid h
    clear hf h h0
    go_enter Try.func32, Try.ntmps32
    go_wp2_with (go_at_call 44; (with_reducible refine ka.mono ?_); rintro e w2 ⟨v, rfl, rfl, rfl⟩)
    go_ret2
    exact Ret.mk ⟨.slice none 0 0, by rw [Hq.out.1]; rfl, row, by rw [Hq.out.1], by rw [Hq.out.2]; exact Sl_nil H.out⟩
  | some x =>
    rw [hf] at ka
    simp only [Option.map_some] at ka
    obtain ⟨hx, r1, r2, hrow, g1, g2⟩ := find_split hnd hf
    have hmem : x ∈ row := by rw [hrow]; simp
    have hbw : bwithout (row.map Ent.blk) k ++ [x.blk] = (r1 ++ r2 ++ [x]).map Ent.blk := by
      rw [← blk_without, hrow, ← hx, without_mid (fun y hy e => g1 y hy (by rw [e, hx])) (fun y hy e => g2 y hy (by rw [e, hx]))]; simp
    have Hq := hid (show bget (row.map Ent.blk) k = (0, (r1 ++ r2 ++ [x]).map Ent.blk) ∧ bdata (row.map Ent.blk) k = x.data from ⟨by simp only [bget, blk_find, hf, Option.map_some]; rw [hbw], by simp only [bdata, blk_find, hf, Option.map_some, Ent.blk]⟩)
    have ku := refuse_ok (xe := x.eb) h0 hlen (rblk_row hmem)
    obtain ⟨d1, d2⟩ := h1 x hmem
    have hfin := hid (fun (w' : World) (rv' : Value) (h : SatL w' (RCacheC xb most rv' :: Sl 70 rv' ((outE row x.eb).map eptr ++ [.pointer (some ⟨x.eb, 0, none⟩)]) :: RR row :: l)) => (by rw [hrow] at h; exact rused h : SatL w' (RCacheO xb most rv' (r1 ++ r2 ++ [x]) l)))
    have hnd2 := hid (by have := hnd; rw [hrow] at this; exact (nodup_lose this).2)
    have hxd := hid (fun (w' : World) (X : List HP) (h : SatL w' (RR (r1 ++ r2 ++ [x]) :: X)) => (by
      have h2 := REntR_open.1 (big_mid.1 (h : SatL w' (RR (r1 ++ r2 ++ x :: []) :: _)))
      exact ⟨h2.cell (i := 1) rfl, SrcOk.ofSl elem_byte.under (h2.pull 1)⟩ : w'.cell? ⟨x.eb, 1, none⟩ = some x.dv ∧ SrcOk Try.prog 29 1 w' x.dv x.data.length x.data))
    have Hd1 := hid d1
    have b1 : (0 + x.data.length) * 1 ≤ 140737488355328 := by omega
    have b2 : 0 + x.data.length ≤ maxLen := by unfold maxLen; omega
    clear h h0 hf hnd hx hrow g1 g2 hmem hbw h1 d1
    generalize x.eb = e at *
    go_enter Try.func32, Try.ntmps32
    go_upto_region 5 with (first
      | (go_at_call 44; (with_reducible refine ka.mono ?_); rintro e2 w2 ⟨v, rfl, rfl, rfl⟩)
      | (go_at_call 45; (with_reducible refine ku.mono ?_); rintro e3 w3 ⟨v, rfl, rfl, rv3, h3⟩))
    have h4 := hfin.out _ _ h3
    clear h3 ka ku
    have hK : SatL (w3.alloc (.cells #[] 5)) (SlK 5 1 (.slice (some ⟨w3.heap.size, 0, none⟩) 0 0) 0 [] :: RCacheO xb most rv3 (r1 ++ r2 ++ [x]) l) :=
      sat_SlK.2 (.inr ⟨w3.heap.size, 0, 0, #[], ⟨rfl, Nat.le_refl _, by decide, rfl, by simp, rfl⟩, h4.allocN _ (by simp)⟩)
    obtain ⟨cd, hsrc⟩ := hxd.out _ _ (hK.pull 3)
    clear h4
    generalize x.dv = xdv at *
    generalize x.data = xdd at *
    go_wp2_with (at_builtin; refine wpList_append_sl rfl (.tmp 15) (.tmp 19) rfl elem_byte rfl hK rfl hsrc Hd1.out b1 b2 ?_; intro v9 w9 h9 _; obtain ⟨a9, n9, c9, rfl⟩ := SlK.val h9)
    go_ret2
    refine Ret.mk ⟨.slice a9 n9 c9, by rw [Hq.out.1]; rfl, r1 ++ r2 ++ [x], by rw [Hq.out.1], ?_⟩
    rw [Hq.out.2]
    have h10 := Sl.ofK h9
    rw [List.nil_append] at h10
    exact SatL.swap (RCache_open.2 ⟨rv3, hnd2.out, h10.bring [1, 2, 3, 0]⟩ : SatL w9 (RCacheR xb most _ :: _))
end
end Go.Proofs.Ytlmjjfgnpcghgaa
