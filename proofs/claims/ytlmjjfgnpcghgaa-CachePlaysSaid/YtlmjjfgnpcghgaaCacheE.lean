/- lay, Get, Fill, Put, Drop, Held of a cache that is owned, said of the blocks' own data. -/
import Derived.Test.YtlmjjfgnpcghgaaCacheD
namespace Go.Proofs.Ytlmjjfgnpcghgaa
set_option linter.unusedVariables false
set_option linter.unusedSimpArgs false
open Go.RowKit

structure Blk where
  b : Int
  data : List Value
  dirty : Bool
  pins : Int
def Ent.blk (x : Ent) : Blk := ⟨x.b, x.data, x.dirty, x.pins⟩
abbrev bhas (k : Int) (x : Blk) : Bool := x.b == k
def bwithout (bs : List Blk) (k : Int) : List Blk := bs.filter fun y => !(y.b == k)
def bfree (x : Blk) : Bool := !x.dirty && x.pins == 0
def bupd (bs : List Blk) (k : Int) (f : Blk → Blk) : List Blk := bs.map fun x => if x.b == k then f x else x
def broom (most : Int) (bs : List Blk) : Int × List Blk := if (bs.length : Int) < most then (0, bs) else match bs.find? bfree with
  | none => (7, bs)
  | some x => (0, bwithout bs x.b)
def blay (most : Int) (bs : List Blk) (k : Int) (data : List Value) : Int × List Blk := match bs.find? (bhas k) with
  | some x => (0, bwithout bs k ++ [{ x with data := data }])
  | none => if (broom most bs).1 = 0 then (0, (broom most bs).2 ++ [⟨k, data, false, 0⟩]) else broom most bs

theorem blk_find (row : List Ent) (k : Int) : (row.map Ent.blk).find? (bhas k) = (row.find? (has k)).map Ent.blk := by
  rw [List.find?_map]; rfl
theorem blk_findFree (row : List Ent) : (row.map Ent.blk).find? bfree = (row.find? isFree).map Ent.blk := by
  rw [List.find?_map]; rfl
theorem blk_without (row : List Ent) (k : Int) : (without row k).map Ent.blk = bwithout (row.map Ent.blk) k := by
  unfold without bwithout; rw [List.filter_map]; rfl
theorem blk_room (most : Int) (row : List Ent) : (roomS most row).1 = (broom most (row.map Ent.blk)).1 ∧ (roomS most row).2.map Ent.blk = (broom most (row.map Ent.blk)).2 := by
  unfold roomS broom
  rw [List.length_map, blk_findFree]
  by_cases h : (row.length : Int) < most
  · simp [h]
  · simp only [h, if_false]
    cases row.find? isFree with
    | none => simp
    | some x => simp [blk_without]; rfl

theorem roomS_len (most : Int) (row : List Ent) : (roomS most row).2.length ≤ row.length := by
  unfold roomS
  split
  · exact Nat.le_refl _
  · split
    · exact Nat.le_refl _
    · exact List.length_filter_le _ _

theorem find_iff {row : List Ent} (hn : (row.map (·.b)).Nodup) {k : Int} {x : Ent} : row.find? (has k) = some x ↔ x ∈ row ∧ x.b = k := by
  constructor
  · intro h; exact ⟨List.mem_of_find?_eq_some h, by simpa [has] using List.find?_some h⟩
  · rintro ⟨h, rfl⟩
    induction row with
    | nil => simp at h
    | cons y row ih =>
      rw [List.map_cons, List.nodup_cons] at hn
      rw [List.find?_cons]
      rcases List.mem_cons.1 h with rfl | h
      · simp [has]
      · have : has x.b y = false := by
          simp only [has, beq_eq_false_iff_ne]
          intro e; exact hn.1 (by rw [e]; exact List.mem_map.2 ⟨x, h, rfl⟩)
        rw [this]; exact ih hn.2 h

theorem MapOk.perm {es : IM} {row row' : List Ent} (h : MapOk es row) (p : row.Perm row') : MapOk es row' := by
  have hn' := ((p.map (·.b)).nodup_iff).1 h.nodup
  refine ⟨fun k => ?_, hn'⟩
  rw [h.look]
  cases hf : row.find? (has k) with
  | some x =>
    have := (find_iff h.nodup).1 hf
    rw [(find_iff hn').2 ⟨p.mem_iff.1 this.1, this.2⟩]
  | none =>
    cases hf' : row'.find? (has k) with
    | none => rfl
    | some x =>
      have := (find_iff hn').1 hf'
      rw [(find_iff h.nodup).2 ⟨p.mem_iff.2 this.1, this.2⟩] at hf; cases hf

theorem MapOk.add {es : IM} {row : List Ent} {x : Ent} (h : MapOk es row) (hx : row.find? (has x.b) = none) : MapOk (mput es x.b (eptr x)) (row ++ [x]) := by
  have hn : ∀ y ∈ row, ¬ y.b = x.b := fun y hy => by simpa [has] using List.find?_eq_none.1 hx y hy
  refine ⟨fun k => ?_, ?_⟩
  · rw [mget_put, List.find?_append, h.look]
    by_cases hk : k = x.b
    · subst hk; simp [hx, has]
    · rw [if_neg hk]
      have : has k x = false := by simp [has]; exact fun e => hk e.symm
      simp [this]
  · rw [List.map_append, List.map_cons, List.map_nil, List.nodup_append]
    refine ⟨h.nodup, by simp, ?_⟩
    intro a ha b hb
    simp at hb; subst hb
    obtain ⟨y, hy, rfl⟩ := List.mem_map.1 ha
    exact hn y hy

def Ent.lay (x : Ent) (dv : Value) (data : List Value) : Ent := ⟨x.eb, x.b, dv, data, x.dirty, x.pins⟩

/-- a call's answer, and the blocks behind it -/
def BPost (pb : Nat) (most : Int) (l : List HP) (r : Int × List Blk) (v : Value) (w : World) : Prop := v = .int .i64 r.1 ∧ ∃ row, row.map Ent.blk = r.2 ∧ SatL w (CacheR pb most row :: l)

section
variable {w : World} {l : List HP} {pb : Nat} {most : Int} {row : List Ent}

/-- what 'use' leaves is a cache again -/
theorem used {r1 r2 : List Ent} {x : Ent} {mb : Nat} {es : IM} {l : List HP} (hm : MapOk es (r1 ++ x :: r2)) (h : SatL w (ex (fun rv' => sep [CacheC pb most rv' mb, Sl 54 rv' (((r1 ++ x :: r2).map eptr).filter (fun v => !atBlk x.eb v) ++ [eptr x])]) :: ER (r1 ++ x :: r2) :: MapI mb es :: l)) :
    SatL w (CacheR pb most (r1 ++ r2 ++ [x]) :: l) := by
  obtain ⟨rv, h⟩ := sat_ex.1 h
  have h := sat_sep.1 h
  simp only [List.cons_append, List.nil_append] at h
  rw [eptr_filter (h.pull 2 : SatL w (ER _ :: _))] at h
  have hp : (r1 ++ x :: r2).Perm (r1 ++ r2 ++ [x]) := by
    rw [List.append_assoc]
    exact (List.Perm.append_left r1 (List.perm_append_singleton x r2).symm)
  refine Cache_open.2 ⟨rv, mb, es, hm.perm hp, ?_⟩
  have h2 := big_perm hp (h.pull 2 : SatL w (ER _ :: _))
  have h3 := SatL.bring h2 [1, 2, 3, 0]
  rw [show (r1 ++ r2).map eptr ++ [eptr x] = (r1 ++ r2 ++ [x]).map eptr by simp] at h3
  exact h3

theorem blk_mid {r1 r2 : List Ent} {x : Ent} {k : Int} (hx : x.b = k) (g1 : ∀ y ∈ r1, ¬ y.b = k) (g2 : ∀ y ∈ r2, ¬ y.b = k) (x' : Ent) : (r1 ++ r2 ++ [x']).map Ent.blk = bwithout ((r1 ++ x :: r2).map Ent.blk) k ++ [x'.blk] := by
  rw [← blk_without]
  subst hx
  rw [without_mid g1 g2]; simp

set_option maxHeartbeats 1000000 in
theorem lay_ok {k : Int} {v : Value} {data : List Value} (h : SatL w (CacheR pb most row :: Sl 5 v data :: l)) (hlen : row.length ≤ 100000) (hmost : 0 ≤ most ∧ most ≤ 100000)
    (h1 : ∀ y ∈ data, y.oneCell' = true) (hb : data.length ≤ 100000) :
    Calls Try.prog 29 #[.pointer (some ⟨pb, 0, none⟩), .int .i64 k, v] w (Ret (BPost pb most (Sl 5 v data :: l) (blay most (row.map Ent.blk) k data))) := by
  obtain ⟨rv, mb, es, hm, h⟩ := Cache_open.1 h
  have c2 : w.cell? ⟨pb, 2, none⟩ = some (.map (some mb)) := h.cell (i := 2) rfl
  have hl := hm.look k
  have hr := run_lookup_sl key_entry (h.pull 2) k
  cases hf : row.find? (has k) with
  | some x =>
    obtain ⟨hx, r1, r2, rfl, g1, g2⟩ := find_split hm.nodup hf
    rw [hl, hf] at hr
    simp only [Option.map_some, eptr, Option.getD_some] at hr
    have Hq := hid (show blay most ((r1 ++ x :: r2).map Ent.blk) k data = (0, bwithout ((r1 ++ x :: r2).map Ent.blk) k ++ [{ x.blk with data := data }]) by simp only [blay, blk_find, hf, Option.map_some])
    have hd : SatL w (Sl 5 v data :: CacheO pb most rv mb es (r1 ++ x :: r2) l) := h.pull 4
    have hcl := clone_bytes hd h1 (by omega)
    clear hl hf
    go_enter Try.func29, Try.ntmps29
    go_wp2_with (first
      | (go_at_call 27; (with_reducible refine hcl.mono ?_); rintro e w' ⟨v', rfl, hs'⟩; obtain ⟨a, n, c, rfl⟩ := Sl.val hs'; have hs2 := focus.1 (SatL.bring hs' [2, 3, 4, 5]); have d0 : w'.cell? ⟨x.eb, 0, none⟩ = some x.dv := hs2.cell (i := 0) rfl; have f0 := hs2.free 0))
    have hs3 := hs2.set (i := 0) (.slice a n c)
    have hs4 := SatL.tail (SatL.bring hs3 [1])
    have e1 : (r1 ++ x :: r2).map eptr = (r1 ++ x.lay (.slice a n c) data :: r2).map eptr := by simp [eptr, Ent.lay]
    have hs5 : SatL (w'.setCell ⟨x.eb, 0, none⟩ (.slice a n c)) (CacheO pb most rv mb es (r1 ++ x.lay (.slice a n c) data :: r2) (Sl 5 v data :: l)) := by
      refine focus.2 ?_
      rw [e1] at hs4
      exact SatL.bring hs4 [0, 5, 1, 2, 3, 4]
    have hu := use_ok (r1 := r1) (r2 := r2) (x := x.lay (.slice a n c) data) (row := r1 ++ x.lay (.slice a n c) data :: r2) (fun y hy => hy) (by simpa using hlen) (hs5.bring [0, 1, 3, 2])
    go_wp2_with (go_at_call 26; refine hu.mono ?_; rintro e w2 ⟨v2, rfl, rfl, hs6⟩)
    go_ret
    refine Ret.mk ?_
    rw [Hq.out]
    have hm2 : MapOk es (r1 ++ x.lay (.slice a n c) data :: r2) := hm.congr (by simp [Ent.lay])
    exact ⟨rfl, _, blk_mid hx g1 g2 _, used hm2 hs6⟩
  | none => 
    rw [hl, hf] at hr
    simp only [Option.map_none, Option.getD_none] at hr
    have hro := room_ok (Cache_open.2 ⟨rv, mb, es, hm, h⟩) hlen hmost
    have hrb := blk_room most row
    have hfr : (roomS most row).2.find? (has k) = none := by
      rw [List.find?_eq_none] at hf ⊢
      intro y hy
      refine hf y ?_
      unfold roomS at hy
      split at hy
      · exact hy
      · split at hy
        · exact hy
        · exact (List.mem_filter.1 hy).1
    have hlr : (roomS most row).2.length ≤ 100000 := Nat.le_trans (roomS_len most row) hlen
    generalize roomS most row = rs at *
    obtain ⟨e0, row0⟩ := rs
    simp only at hrb hfr hlr
    by_cases he : e0 = 0
    · subst he
      have Hq := hid (show blay most (row.map Ent.blk) k data = (0, row0.map Ent.blk ++ [⟨k, data, false, 0⟩]) by simp only [blay, blk_find, hf, Option.map_none, ← hrb.1, if_true, hrb.2])
      clear hl hf hrb
      go_enter Try.func29, Try.ntmps29
      have tok0 : True := trivial
      go_wp2_with (first
        | (go_at_call 42; (with_reducible refine hro.mono ?_); rintro e w' ⟨v', rfl, rfl, hs'⟩; obtain ⟨rv', mb', es', hm', hs'⟩ := Cache_open.1 hs'; have c2 : w'.cell? ⟨pb, 2, none⟩ = some (.map (some mb')) := hs'.cell (i := 2) rfl; have lt2 := hs'.lt)
        | (at_mapUpdate; refine wpList_mapUpdate_sl rfl (.tmp 28) (.tmp 29) (.tmp 30) rfl key_entry rfl (SatL.bring (SatL.alloc hs' (.cells #[.slice none 0 0, .bool false, .int .i64 0, .int .i64 k] 60)) [3]) rfl rfl ?_; intro w3 hs3)
        | (go_at_call 27; refine (clone_bytes (SatL.bring hs3 [5]) h1 (by omega)).mono ?_; rintro e w4 ⟨v4, rfl, hs4⟩; obtain ⟨a, n, c, rfl⟩ := Sl.val hs4; have d0 : w4.cell? ⟨w'.heap.size, 0, none⟩ = some (.slice none 0 0) := (SatL.bring hs4 [3]).cell (i := 0) rfl; have f0 := (SatL.bring hs4 [3]).free 0))
      have hs5 := (SatL.bring hs4 [3]).set (i := 0) (.slice a n c)
      have hs6 : SatL (w4.setCell ⟨w'.heap.size, 0, none⟩ (.slice a n c)) (CacheC pb most rv' mb' :: Sl 54 rv' (row0.map eptr) :: ER (row0 ++ ⟨w'.heap.size, k, .slice a n c, data, false, 0⟩ :: []) :: MapI mb' (mput es' k (.pointer (some ⟨w'.heap.size, 0, none⟩))) :: Sl 5 v data :: l) := by
        have q1 : SatL (w4.setCell ⟨w'.heap.size, 0, none⟩ (.slice a n c)) (ER (row0 ++ ⟨w'.heap.size, k, .slice a n c, data, false, 0⟩ :: []) :: CacheC pb most rv' mb' :: Sl 54 rv' (row0.map eptr) :: MapI mb' (mput es' k (.pointer (some ⟨w'.heap.size, 0, none⟩))) :: Sl 5 v data :: l) := by
          refine big_mid.2 (EntR_open.2 ?_)
          rw [List.append_nil]
          exact SatL.bring hs5 [0, 1, 6, 4, 5, 3, 2]
        exact SatL.bring q1 [1, 2, 0]
      have hu := use_ok (r1 := row0) (r2 := []) (x := ⟨w'.heap.size, k, .slice a n c, data, false, 0⟩) (row := row0) (fun y hy => by simp [hy]) hlr hs6
      go_wp2_with (go_at_call 26; refine hu.mono ?_; rintro e w2 ⟨v2, rfl, rfl, hs7⟩)
      go_ret
      refine Ret.mk ?_
      rw [Hq.out]
      refine ⟨rfl, row0 ++ [⟨w'.heap.size, k, .slice a n c, data, false, 0⟩], by simp [Ent.blk], ?_⟩
      obtain ⟨rv2, hs8⟩ := sat_ex.1 hs7
      have hs9 := sat_sep.1 hs8
      simp only [List.cons_append, List.nil_append] at hs9
      have hfl := eptr_filter (r1 := row0) (r2 := []) (SatL.bring hs9 [2])
      simp only [List.map_append, List.filter_append, List.append_nil, List.map_cons, List.map_nil, List.filter_cons, List.filter_nil] at hfl
      rw [show atBlk w'.heap.size (eptr ⟨w'.heap.size, k, .slice a n c, data, false, 0⟩) = true by simp [atBlk, eptr]] at hfl
      simp only [Bool.not_true, Bool.false_eq_true, if_false, List.append_nil] at hfl
      rw [hfl] at hs9
      refine Cache_open.2 ⟨rv2, mb', _, MapOk.add (x := ⟨w'.heap.size, k, .slice a n c, data, false, 0⟩) hm' hfr, ?_⟩
      rw [show row0.map eptr ++ [eptr ⟨w'.heap.size, k, .slice a n c, data, false, 0⟩] = (row0 ++ [(⟨w'.heap.size, k, .slice a n c, data, false, 0⟩ : Ent)]).map eptr by simp] at hs9
      exact SatL.bring hs9 [0, 1, 3, 2]
    · have he' : (e0 != 0) = true := by simpa using he
      have Hq := hid (show blay most (row.map Ent.blk) k data = (e0, row0.map Ent.blk) by simp only [blay, blk_find, hf, Option.map_none, ← hrb.1, he, if_false]; rw [hrb.1, hrb.2])
      clear hl hf hrb
      go_enter Try.func29, Try.ntmps29
      go_wp2_with (go_at_call 42; (with_reducible refine hro.mono ?_); rintro e w' ⟨v', rfl, rfl, hs'⟩)
      go_ret
      refine Ret.mk ?_
      rw [Hq.out]
      exact ⟨rfl, _, rfl, hs'⟩

def bget (bs : List Blk) (k : Int) : Int × List Blk := match bs.find? (bhas k) with
  | none => (17, bs)
  | some x => (0, bwithout bs k ++ [x])
def bdata (bs : List Blk) (k : Int) : List Value := match bs.find? (bhas k) with | none => [] | some x => x.data

/-- what Get tells: a slice of its own -/
def GPost (pb : Nat) (most : Int) (l : List HP) (bs : List Blk) (k : Int) (v : Value) (w : World) : Prop :=
  ∃ dv, v = .tuple #[dv, .int .i64 (bget bs k).1] ∧ ∃ row, row.map Ent.blk = (bget bs k).2 ∧ SatL w (Sl 5 dv (bdata bs k) :: CacheR pb most row :: l)

set_option maxHeartbeats 1000000 in
theorem get_ok {k : Int} (h : SatL w (CacheR pb most row :: l)) (hlen : row.length ≤ 100000) (h1 : ∀ x ∈ row, (∀ y ∈ x.data, y.oneCell' = true) ∧ x.data.length ≤ 100000) :
    Calls Try.prog 10 #[.pointer (some ⟨pb, 0, none⟩), .int .i64 k] w (Ret (GPost pb most l (row.map Ent.blk) k)) := by
  obtain ⟨rv, mb, es, hm, h⟩ := Cache_open.1 h
  have c2 : w.cell? ⟨pb, 2, none⟩ = some (.map (some mb)) := h.cell (i := 2) rfl
  have hl := hm.look k
  have hr := run_lookup_sl key_entry (h.pull 2) k
  cases hf : row.find? (has k) with
  | some x =>
    obtain ⟨hx, r1, r2, rfl, g1, g2⟩ := find_split hm.nodup hf
    rw [hl, hf] at hr
    simp only [Option.map_some, eptr, Option.getD_some] at hr
    have Hq := hid (show bget ((r1 ++ x :: r2).map Ent.blk) k = (0, bwithout ((r1 ++ x :: r2).map Ent.blk) k ++ [x.blk]) by simp only [bget, blk_find, hf, Option.map_some])
    have Hd := hid (show bdata ((r1 ++ x :: r2).map Ent.blk) k = x.data by simp only [bdata, blk_find, hf, Option.map_some]; rfl)
    have hu := use_ok (r1 := r1) (r2 := r2) (x := x) (row := r1 ++ x :: r2) (fun y hy => hy) hlen (h.bring [0, 1, 3, 2])
    obtain ⟨hx1, hx2⟩ := h1 x (by simp)
    clear hl hf
    go_enter Try.func10, Try.ntmps10
    go_wp2_with (first
      | (go_at_call 26; (with_reducible refine hu.mono ?_); rintro e w2 ⟨v2, rfl, rfl, hs6⟩; have hs7 := used (l := l) hm hs6; obtain ⟨rv3, mb3, es3, hm3, hs8⟩ := Cache_open.1 hs7; have hs9 := focus.1 hs8; have d0 : w2.cell? ⟨x.eb, 0, none⟩ = some x.dv := hs9.cell (i := 0) rfl)
      | (go_at_call 27; refine (clone_bytes (SatL.bring hs9 [1]) hx1 (by omega)).mono ?_; rintro e w4 ⟨v4, rfl, hs10⟩))
    go_ret2
    refine Ret.mk ⟨v4, by rw [Hq.out]; rfl, r1 ++ r2 ++ [x], by rw [Hq.out]; exact blk_mid hx g1 g2 x, ?_⟩
    rw [Hd.out]
    have q1 : SatL w4 (EntC x :: Sl 5 x.dv x.data :: CacheC pb most rv3 mb3 :: Sl 54 rv3 ((r1 ++ r2 ++ [x]).map eptr) :: MapI mb3 es3 :: ER (r1 ++ r2 ++ []) :: Sl 5 v4 x.data :: l) := SatL.bring hs10 [2, 1, 3, 4, 5, 6, 0]
    have q2 := focus.2 q1
    have q3 := Cache_open.2 ⟨rv3, mb3, es3, hm3, q2⟩
    exact q3.swap
  | none =>
    rw [hl, hf] at hr
    simp only [Option.map_none, Option.getD_none] at hr
    have Hq := hid (show bget (row.map Ent.blk) k = (17, row.map Ent.blk) by simp only [bget, blk_find, hf, Option.map_none])
    have Hd := hid (show bdata (row.map Ent.blk) k = [] by simp only [bdata, blk_find, hf, Option.map_none])
    clear hl hf
    go_enter Try.func10, Try.ntmps10
    go_wp2
    go_ret2
    refine Ret.mk ⟨.slice none 0 0, by rw [Hq.out]; rfl, row, by rw [Hq.out], ?_⟩
    rw [Hd.out]
    exact Sl_nil (Cache_open.2 ⟨rv, mb, es, hm, h⟩)
end
end Go.Proofs.Ytlmjjfgnpcghgaa
