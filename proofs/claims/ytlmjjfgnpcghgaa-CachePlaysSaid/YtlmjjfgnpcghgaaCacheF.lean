/- Fill, Put, Drop, Held of a cache that is owned. -/
import Derived.Test.YtlmjjfgnpcghgaaCacheE
namespace Go.Proofs.Ytlmjjfgnpcghgaa
set_option linter.unusedVariables false
set_option linter.unusedSimpArgs false
open Go.RowKit

def bfill (most : Int) (bs : List Blk) (k : Int) (data : List Value) : Int × List Blk :=
  if k < 0 then (1, bs) else if data.length ≠ 512 then (14, bs) else if (bs.find? (bhas k)).isSome then (8, bs) else blay most bs k data
def bput (most : Int) (bs : List Blk) (k : Int) (data : List Value) : Int × List Blk :=
  if k < 0 then (1, bs) else if data.length ≠ 512 then (14, bs) else
    if (blay most bs k data).1 = 0 then (0, bupd (blay most bs k data).2 k fun x => { x with dirty := true }) else blay most bs k data
def bdrop (bs : List Blk) (k : Int) : Int × List Blk := match bs.find? (bhas k) with
  | none => (17, bs)
  | some x => if bfree x then (0, bwithout bs k) else (8, bs)

theorem blk_upd (row : List Ent) (k : Int) (f : Ent → Ent) (g : Blk → Blk) (h : ∀ x, (f x).blk = g x.blk) : (upd row k f).map Ent.blk = bupd (row.map Ent.blk) k g := by
  unfold upd bupd
  rw [List.map_map, List.map_map]
  apply List.map_congr_left
  intro x _
  simp only [Function.comp]
  rw [show (x.blk.b == k) = (x.b == k) from rfl]
  split
  · exact h x
  · rfl

section
variable {w : World} {l : List HP} {pb : Nat} {most : Int} {row : List Ent}

set_option maxHeartbeats 1000000 in
theorem fill_ok {k : Int} {v : Value} {data : List Value} (h : SatL w (CacheR pb most row :: Sl 5 v data :: l)) (hlen : row.length ≤ 100000) (hmost : 0 ≤ most ∧ most ≤ 100000)
    (h1 : ∀ y ∈ data, y.oneCell' = true) (hb : data.length ≤ 100000) :
    Calls Try.prog 11 #[.pointer (some ⟨pb, 0, none⟩), .int .i64 k, v] w (Ret (BPost pb most (Sl 5 v data :: l) (bfill most (row.map Ent.blk) k data))) := by
  obtain ⟨a, n, c, rfl⟩ := Sl.val (h.pull 1)
  obtain ⟨hn, _, _⟩ := Sl.lenEq (h.pull 1)
  subst hn
  have hw := fun (w : World) (h : SatL w (CacheR pb most row :: Sl 5 (.slice a data.length c) data :: l)) => wrong_ok k a data.length c (by unfold maxLen; omega) h
  by_cases g1 : k < 0
  · have Hq := hid (show bfill most (row.map Ent.blk) k data = (1, row.map Ent.blk) by simp [bfill, g1])
    simp only [g1, if_true] at hw
    go_enter Try.func11, Try.ntmps11
    go_wp2_with (go_at_call 28; (with_reducible refine (hw _ h).mono ?_); rintro e w' ⟨v', rfl, rfl, hs'⟩)
    go_ret
    exact Ret.mk (by rw [Hq.out]; exact ⟨rfl, _, rfl, hs'⟩)
  · by_cases g2 : data.length = 512
    · simp only [g1, g2, if_false, if_true] at hw
      have hla := fun (w : World) (h : SatL w (CacheR pb most row :: Sl 5 (.slice a 512 c) data :: l)) => lay_ok (k := k) h hlen hmost h1 hb
      rw [g2] at h ⊢
      cases hf : row.find? (has k) with
      | some x =>
        have Hq := hid (show bfill most (row.map Ent.blk) k data = (8, row.map Ent.blk) by simp only [bfill, g1, g2, blk_find, hf, if_false, ne_eq, not_true, Option.map_some, Option.map_none, Option.isSome_some, Option.isSome_none, if_true, Bool.false_eq_true])
        clear g2
        have hc := fun (w : World) (h : SatL w (CacheR pb most row :: Sl 5 (.slice a 512 c) data :: l)) => Cache_open.1 h
        go_enter Try.func11, Try.ntmps11
        go_wp2_with (go_at_call 28; (with_reducible refine (hw _ h).mono ?_); rintro e w' ⟨v', rfl, rfl, hs'⟩; obtain ⟨rv, mb, es, hm, hs2⟩ := hc _ hs'; have c2 : w'.cell? ⟨pb, 2, none⟩ = some (.map (some mb)) := hs2.cell (i := 2) rfl; have hr := run_lookup_sl key_entry (SatL.pull hs2 2) k; rw [hm.look k, hf] at hr; simp only [Option.map_some, eptr, Option.getD_some] at hr; clear hf)
        go_ret
        exact Ret.mk (by rw [Hq.out]; exact ⟨rfl, _, rfl, hs'⟩)
      | none =>
        have Hq := hid (show bfill most (row.map Ent.blk) k data = blay most (row.map Ent.blk) k data by simp only [bfill, g1, g2, blk_find, hf, if_false, ne_eq, not_true, Option.map_some, Option.map_none, Option.isSome_some, Option.isSome_none, if_true, Bool.false_eq_true])
        clear g2
        have hc := fun (w : World) (h : SatL w (CacheR pb most row :: Sl 5 (.slice a 512 c) data :: l)) => Cache_open.1 h
        go_enter Try.func11, Try.ntmps11
        go_wp2_with (first
          | (go_at_call 28; (with_reducible refine (hw _ h).mono ?_); rintro e w' ⟨v', rfl, rfl, hs'⟩; obtain ⟨rv, mb, es, hm, hs2⟩ := hc _ hs'; have c2 : w'.cell? ⟨pb, 2, none⟩ = some (.map (some mb)) := hs2.cell (i := 2) rfl; have hr := run_lookup_sl key_entry (SatL.pull hs2 2) k; rw [hm.look k, hf] at hr; simp only [Option.map_none, Option.getD_none] at hr; clear hf)
          | (go_at_call 29; (with_reducible refine (hla _ hs').mono ?_); rintro e w2 ⟨v2, rfl, rfl, hs3⟩))
        go_ret
        exact Ret.mk (by rw [Hq.out]; exact ⟨rfl, hs3⟩)
    · have Hq := hid (show bfill most (row.map Ent.blk) k data = (14, row.map Ent.blk) by simp [bfill, g1, g2])
      simp only [g1, g2, if_false] at hw
      clear g2
      go_enter Try.func11, Try.ntmps11
      go_wp2_with (go_at_call 28; (with_reducible refine (hw _ h).mono ?_); rintro e w' ⟨v', rfl, rfl, hs'⟩)
      go_ret
      exact Ret.mk (by rw [Hq.out]; exact ⟨rfl, _, rfl, hs'⟩)
theorem find_there {es : IM} {row : List Ent} (hm : MapOk es row) {k : Int} (h : ∃ x, x ∈ row.map Ent.blk ∧ x.b = k) : ∃ x r1 r2, x.b = k ∧ row.find? (has k) = some x ∧ row = r1 ++ x :: r2 ∧ (∀ y ∈ r1, ¬ y.b = k) ∧ (∀ y ∈ r2, ¬ y.b = k) := by
  obtain ⟨b, hb, hk⟩ := h
  obtain ⟨x, hx, rfl⟩ := List.mem_map.1 hb
  have hf := (find_iff hm.nodup).2 ⟨hx, hk⟩
  obtain ⟨h1, r1, r2, h2, h3, h4⟩ := find_split hm.nodup hf
  exact ⟨x, r1, r2, h1, hf, h2, h3, h4⟩


theorem blay_has (most : Int) (bs : List Blk) (k : Int) (data : List Value) (h : (blay most bs k data).1 = 0) : ∃ x, x ∈ (blay most bs k data).2 ∧ x.b = k := by
  unfold blay at *
  cases hf : bs.find? (bhas k) with
  | some x =>
    have : x.b = k := by simpa [bhas] using List.find?_some hf
    exact ⟨{ x with data := data }, by simp, this⟩
  | none =>
    simp only [hf] at h
    by_cases h0 : (broom most bs).1 = 0
    · simp only [h0, if_true]; exact ⟨⟨k, data, false, 0⟩, by simp, rfl⟩
    · simp only [h0, if_false] at h

set_option maxHeartbeats 1000000 in
theorem put_ok {k : Int} {v : Value} {data : List Value} (h : SatL w (CacheR pb most row :: Sl 5 v data :: l)) (hlen : row.length ≤ 100000) (hmost : 0 ≤ most ∧ most ≤ 100000)
    (h1 : ∀ y ∈ data, y.oneCell' = true) (hb : data.length ≤ 100000) :
    Calls Try.prog 14 #[.pointer (some ⟨pb, 0, none⟩), .int .i64 k, v] w (Ret (BPost pb most (Sl 5 v data :: l) (bput most (row.map Ent.blk) k data))) := by
  obtain ⟨a, n, c, rfl⟩ := Sl.val (h.pull 1)
  obtain ⟨hn, _, _⟩ := Sl.lenEq (h.pull 1)
  subst hn
  have hw := fun (w : World) (h : SatL w (CacheR pb most row :: Sl 5 (.slice a data.length c) data :: l)) => wrong_ok k a data.length c (by unfold maxLen; omega) h
  by_cases g1 : k < 0
  · have Hq := hid (show bput most (row.map Ent.blk) k data = (1, row.map Ent.blk) by simp [bput, g1])
    simp only [g1, if_true] at hw
    go_enter Try.func14, Try.ntmps14
    go_wp2_with (go_at_call 28; (with_reducible refine (hw _ h).mono ?_); rintro e w' ⟨v', rfl, rfl, hs'⟩)
    go_ret
    exact Ret.mk (by rw [Hq.out]; exact ⟨rfl, _, rfl, hs'⟩)
  · by_cases g2 : data.length = 512
    · simp only [g1, g2, if_false, if_true] at hw
      have hla := fun (w : World) (h : SatL w (CacheR pb most row :: Sl 5 (.slice a 512 c) data :: l)) => lay_ok (k := k) h hlen hmost h1 hb
      rw [g2] at h ⊢
      by_cases he : (blay most (row.map Ent.blk) k data).1 = 0
      · have Hq := hid (show bput most (row.map Ent.blk) k data = (0, bupd (blay most (row.map Ent.blk) k data).2 k fun x => { x with dirty := true }) by simp only [bput, g1, g2, if_false, ne_eq, not_true, he, if_true])
        have hh := blay_has most (row.map Ent.blk) k data he
        generalize blay most (row.map Ent.blk) k data = rs at *
        obtain ⟨e0, bs'⟩ := rs
        simp only at he hh
        subst he
        clear g2
        go_enter Try.func14, Try.ntmps14
        go_wp2_with (first
          | (go_at_call 28; (with_reducible refine (hw _ h).mono ?_); rintro e w' ⟨v', rfl, rfl, hs'⟩)
          | (go_at_call 29; (with_reducible refine (hla _ hs').mono ?_); rintro e w2 ⟨v2, rfl, rfl, row2, hrow2, hs3⟩; obtain ⟨rv, mb, es, hm, hs4⟩ := Cache_open.1 hs3; have c2 : w2.cell? ⟨pb, 2, none⟩ = some (.map (some mb)) := hs4.cell (i := 2) rfl; have hr := run_lookup_sl key_entry (SatL.pull hs4 2) k; obtain ⟨x, r1, r2, hx, hf, hrr, g3, g4⟩ : ∃ x r1 r2, x.b = k ∧ row2.find? (has k) = some x ∧ row2 = r1 ++ x :: r2 ∧ (∀ y ∈ r1, ¬ y.b = k) ∧ (∀ y ∈ r2, ¬ y.b = k) := find_there hm (by rw [hrow2]; exact hh); subst hrr; rw [hm.look k, hf] at hr; simp only [Option.map_some, eptr, Option.getD_some] at hr; have hs5 := focus.1 hs4; have f5 := hs5.free 1; have d5 : w2.cell? ⟨x.eb, 1, none⟩ = some (.bool x.dirty) := hs5.cell (i := 1) rfl; clear hf))
        go_ret
        refine Ret.mk ?_
        rw [Hq.out]
        refine ⟨rfl, r1 ++ ⟨x.eb, x.b, x.dv, x.data, true, x.pins⟩ :: r2, ?_, Cache_open.2 ⟨rv, mb, es, hm.congr (by simp), focus.2 ?_⟩⟩
        · rw [← hrow2, ← blk_upd _ _ (fun x => ⟨x.eb, x.b, x.dv, x.data, true, x.pins⟩) _ (fun x => rfl), upd_mid hx g3 g4]
        · have := hs5.set (i := 1) (.bool true)
          rw [show (r1 ++ x :: r2).map eptr = (r1 ++ (⟨x.eb, x.b, x.dv, x.data, true, x.pins⟩ : Ent) :: r2).map eptr by simp [eptr]] at this
          exact this
      · have Hq := hid (show bput most (row.map Ent.blk) k data = blay most (row.map Ent.blk) k data by simp only [bput, g1, g2, if_false, ne_eq, not_true, he])
        have he' : ((blay most (row.map Ent.blk) k data).1 == 0) = false := by simpa using he
        generalize blay most (row.map Ent.blk) k data = rs at *
        obtain ⟨e0, bs'⟩ := rs
        simp only at he he'
        clear g2
        go_enter Try.func14, Try.ntmps14
        go_wp2_with (first
          | (go_at_call 28; (with_reducible refine (hw _ h).mono ?_); rintro e w' ⟨v', rfl, rfl, hs'⟩)
          | (go_at_call 29; (with_reducible refine (hla _ hs').mono ?_); rintro e w2 ⟨v2, rfl, rfl, row2, hrow2, hs3⟩))
        go_ret
        exact Ret.mk (by rw [Hq.out]; exact ⟨rfl, row2, hrow2, hs3⟩)
    · have Hq := hid (show bput most (row.map Ent.blk) k data = (14, row.map Ent.blk) by simp [bput, g1, g2])
      simp only [g1, g2, if_false] at hw
      clear g2
      go_enter Try.func14, Try.ntmps14
      go_wp2_with (go_at_call 28; (with_reducible refine (hw _ h).mono ?_); rintro e w' ⟨v', rfl, rfl, hs'⟩)
      go_ret
      exact Ret.mk (by rw [Hq.out]; exact ⟨rfl, _, rfl, hs'⟩)

set_option maxHeartbeats 1000000 in
theorem drop_ok {k : Int} (h : SatL w (CacheR pb most row :: l)) :
    Calls Try.prog 15 #[.pointer (some ⟨pb, 0, none⟩), .int .i64 k] w (Ret (BPost pb most l (bdrop (row.map Ent.blk) k))) := by
  obtain ⟨rv, mb, es, hm, hs⟩ := Cache_open.1 h
  have c2 : w.cell? ⟨pb, 2, none⟩ = some (.map (some mb)) := hs.cell (i := 2) rfl
  have hl := hm.look k
  have hr := run_lookup_sl key_entry (hs.pull 2) k
  cases hf : row.find? (has k) with
  | some x =>
    obtain ⟨hx, r1, r2, rfl, g1, g2⟩ := find_split hm.nodup hf
    rw [hl, hf] at hr
    simp only [Option.map_some, eptr, Option.getD_some] at hr
    have hfr := free_ok (focus.1 hs)
    have hlo := lose_ok h
    cases hb : isFree x with
    | true =>
      have Hq := hid (show bdrop ((r1 ++ x :: r2).map Ent.blk) k = (0, bwithout ((r1 ++ x :: r2).map Ent.blk) k) by
        simp only [bdrop, blk_find, hf, Option.map_some]; rw [show bfree x.blk = true from hb]; rfl)
      rw [hb] at hfr
      clear hl hf hb
      go_enter Try.func15, Try.ntmps15
      go_wp2_with (first
        | (go_at_call 30; (with_reducible refine hfr.mono ?_); rintro e w2 ⟨v2, rfl, rfl, hs2⟩)
        | (go_at_call 31; refine (lose_ok (Cache_open.2 ⟨rv, mb, es, hm, focus.2 hs2⟩)).mono ?_; rintro e w3 ⟨v3, rfl, rfl, hs3⟩))
      go_ret
      refine Ret.mk ?_
      rw [Hq.out]
      refine ⟨rfl, r1 ++ r2, ?_, hs3⟩
      rw [← blk_without]
      subst hx
      rw [without_mid g1 g2]
    | false =>
      have Hq := hid (show bdrop ((r1 ++ x :: r2).map Ent.blk) k = (8, (r1 ++ x :: r2).map Ent.blk) by
        simp only [bdrop, blk_find, hf, Option.map_some]; rw [show bfree x.blk = false from hb]; rfl)
      rw [hb] at hfr
      clear hl hf hb
      go_enter Try.func15, Try.ntmps15
      go_wp2_with (go_at_call 30; (with_reducible refine hfr.mono ?_); rintro e w2 ⟨v2, rfl, rfl, hs2⟩)
      go_ret
      exact Ret.mk (by rw [Hq.out]; exact ⟨rfl, _, rfl, Cache_open.2 ⟨rv, mb, es, hm, focus.2 hs2⟩⟩)
  | none =>
    rw [hl, hf] at hr
    simp only [Option.map_none, Option.getD_none] at hr
    have Hq := hid (show bdrop (row.map Ent.blk) k = (17, row.map Ent.blk) by simp only [bdrop, blk_find, hf, Option.map_none])
    clear hl hf
    go_enter Try.func15, Try.ntmps15
    go_wp2
    go_ret
    exact Ret.mk (by rw [Hq.out]; exact ⟨rfl, _, rfl, h⟩)

set_option maxHeartbeats 1000000 in
theorem held_ok (h : SatL w (CacheR pb most row :: l)) (hlen : row.length ≤ 100000) :
    Calls Try.prog 12 #[.pointer (some ⟨pb, 0, none⟩)] w (Ret (SlPost 3 (row.map fun x => .int .i64 x.b) (CacheR pb most row :: l))) := by
  obtain ⟨rv, mb, es, hm, hs⟩ := Cache_open.1 h
  have c1 : w.cell? ⟨pb, 1, none⟩ = some rv := hs.cell (i := 1) rfl
  obtain ⟨a, n, c, rfl⟩ := Sl.val (hs.pull 1)
  obtain ⟨hnl, hnc, hcm⟩ := Sl.lenEq (hs.pull 1)
  rw [List.length_map] at hnl
  subst hnl
  unfold maxLen at hcm
  have hl0 : row.length ≤ 9223372036854775807 := by omega
  go_enter Try.func12, Try.ntmps12
  go_wp2
  go_loopw [3, 11] (fun out i wr => ∃ k : Nat, k ≤ row.length ∧ i = .int .i64 k ∧ SatL wr (Sl 3 out ((row.take k).map fun x => .int .i64 x.b) :: CacheO pb most (.slice a row.length c) mb es row l)) (fun _ i _ => row.length - (intOf i).toNat)
  case atStart => exact ⟨0, Nat.zero_le _, rfl, Sl_nil hs⟩
  case round =>
    obtain ⟨k, hk, rfl, hs1⟩ := hrel
    by_cases hlt : k < row.length
    · obtain ⟨b, off, rfl⟩ := Sl.addr (hs.pull 1) (by omega)
      have hx : row[k]? = some row[k] := List.getElem?_eq_getElem hlt
      have hc := Sl.cell (hs1.pull 2) (i := k) (x := eptr row[k]) (by rw [List.getElem?_map, hx]; rfl)
      obtain ⟨x, hxk⟩ : ∃ x, x = row[k] := ⟨_, rfl⟩
      rw [← hxk] at hc hx
      have htk := hid (show (row.take (k + 1)).map (fun x => Value.int .i64 x.b) = (row.take k).map (fun x => Value.int .i64 x.b) ++ [.int .i64 x.b] by rw [List.take_add_one, hx]; simp)
      have hmem : x ∈ row := List.mem_of_getElem? hx
      obtain ⟨r1, r2, hrr⟩ := List.append_of_mem hmem
      have hd : wr.cell? ⟨x.eb, 3, none⟩ = some (.int .i64 x.b) := by
        have q := hs1.pull 4
        rw [hrr] at q
        exact (EntR_open.1 (big_mid.1 (q : SatL wr (ER _ :: _)))).cell (i := 3) rfl
      unfold eptr at hc
      clear hrr hx hmem hxk
      have hln : ((row.take k).map (fun x => Value.int .i64 x.b)).length ≤ 100000 := by simp; omega
      have hone : ∀ y ∈ [Value.int .i64 x.b], y.oneCell' = true := by simp [Value.oneCell']
      have b1 : (((row.take k).map (fun x => Value.int .i64 x.b)).length + 1) * 8 ≤ 140737488355328 := by omega
      have b2 : ((row.take k).map (fun x => Value.int .i64 x.b)).length + 1 ≤ maxLen := by unfold maxLen; omega
      go_wp2_with (at_builtin; refine wpList_append_sl rfl (.tmp 15) (.tmp 20) rfl elem_int rfl (Sl.toK (SatL.swap (SatL.alloc hs1 (.cells #[.int .i64 x.b] 3))) rfl) rfl (SrcOk.ofCl (n := 1) elem_int.under (SatL.alloc hs1 (.cells #[.int .i64 x.b] 3)) rfl 1) hone b1 b2 ?_; intro v' w2 h6 _)
      go_roundw
      case rel =>
        refine ⟨k + 1, by omega, by go_num, ?_⟩
        rw [htk.out]
        exact (SatL.tail (SatL.swap (Sl.ofK h6)))
      case measure => simp [intOf]; omega
    · obtain rfl : k = row.length := by omega
      rw [List.take_length] at hs1
      go_wp2
      go_ret
      exact Ret.mk ((Cache_open.2 ⟨_, mb, es, hm, hs1.bring [1, 2, 3, 4]⟩ : SatL _ (CacheR _ _ _ :: _)).swap)
end
end Go.Proofs.Ytlmjjfgnpcghgaa
