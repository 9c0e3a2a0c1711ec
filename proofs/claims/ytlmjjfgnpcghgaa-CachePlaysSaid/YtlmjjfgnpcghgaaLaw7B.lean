/- The document's cache, told by its blocks alone; what a row of calls keeps. No condition beside the sizes that each names. -/
import Derived.Test.YtlmjjfgnpcghgaaRefCacheY
import Derived.Test.YtlmjjfgnpcghgaaKeeps
import Derived.Test.YtlmjjfgnpcghgaaLaw7A
namespace Go.Proofs.Ytlmjjfgnpcghgaa
set_option linter.unusedVariables false
set_option linter.unusedSimpArgs false
open Go.RowKit
def RCacheA (xb : Nat) (most : Int) (bs : List Blk) : HP := ex fun row => sep [pur (row.map Ent.blk = bs), RCacheR xb most row]
def RAPost (xb : Nat) (most : Int) (l : List HP) (r : Int × List Blk) (v : Value) (w : World) : Prop := v = .int .i64 r.1 ∧ SatL w (RCacheA xb most r.2 :: l)
section
variable {w : World} {l : List HP} {xb : Nat} {most : Int} {bs : List Blk}
theorem RCacheA_open : SatL w (RCacheA xb most bs :: l) ↔ ∃ row, row.map Ent.blk = bs ∧ SatL w (RCacheR xb most row :: l) := by
  simp only [RCacheA, sat_ex, sat_sep, List.cons_append, List.nil_append, sat_pur]
theorem RPost.toA {r : Int × List Ent} {q : Int × List Blk} (hq : q = (r.1, r.2.map Ent.blk)) {e : Ending} (h : Ret (RPost xb most l r) e w) : Ret (RAPost xb most l q) e w := by
  subst hq
  obtain ⟨v, he, hv, h2⟩ := h
  exact ⟨v, he, hv, RCacheA_open.2 ⟨_, rfl, h2⟩⟩
theorem RBPost.toA {r : Int × List Blk} {e : Ending} (h : Ret (RBPost xb most l r) e w) : Ret (RAPost xb most l r) e w := by
  obtain ⟨v, he, hv, row, h1, h2⟩ := h
  exact ⟨v, he, hv, RCacheA_open.2 ⟨row, h1, h2⟩⟩
theorem pin_blk (row : List Ent) (k : Int) : bpin (row.map Ent.blk) k = ((pinS row k).1, (pinS row k).2.map Ent.blk) := by
  unfold bpin pinS
  rw [blk_find]
  cases row.find? (has k) with
  | none => rfl
  | some x => simp only [Option.map_some]; rw [blk_upd _ _ _ (fun x => { x with pins := x.pins + 1 }) (fun x => rfl)]
theorem unpin_blk (row : List Ent) (k : Int) : bunpin (row.map Ent.blk) k = ((unpinS row k).1, (unpinS row k).2.map Ent.blk) := by
  unfold bunpin unpinS
  rw [blk_find]
  cases row.find? (has k) with
  | none => rfl
  | some x =>
    simp only [Option.map_some]
    rw [show x.blk.pins = x.pins from rfl]
    split
    · rfl
    · rw [blk_upd _ _ _ (fun x => { x with pins := x.pins - 1 }) (fun x => rfl)]
theorem clean_blk (row : List Ent) (k : Int) : bclean (row.map Ent.blk) k = ((cleanS row k).1, (cleanS row k).2.map Ent.blk) := by
  unfold bclean cleanS
  rw [blk_find]
  cases row.find? (has k) with
  | none => rfl
  | some x => simp only [Option.map_some]; rw [blk_upd _ _ _ (fun x => { x with dirty := false }) (fun x => rfl)]
theorem drop_blk (row : List Ent) (k : Int) : bdrop (row.map Ent.blk) k = ((dropS row k).1, (dropS row k).2.map Ent.blk) := by
  unfold bdrop dropS
  rw [blk_find]
  cases row.find? (has k) with
  | none => rfl
  | some x =>
    simp only [Option.map_some]
    have e : bfree x.blk = isFree x := rfl
    rw [e]
    split
    · rw [blk_without]
    · rfl
/-- bytes -/
def ByV (l : List Value) : Prop := ∃ D : List UInt8, l = bvs D ∧ D.length ≤ 2000
theorem ByV.one {l : List Value} (h : ByV l) : (∀ y ∈ l, y.oneCell' = true) ∧ l.length ≤ 2000 := by
  obtain ⟨D, rfl, h2⟩ := h
  exact ⟨bvs_one D, by rw [bvs_len]; exact h2⟩
/-- what holds of a cache's blocks from call to call -/
structure BI (most : Int) (i : Nat) (bs : List Blk) : Prop where
  len : (bs.length : Int) ≤ most
  ok : ∀ x ∈ bs, ByV x.data ∧ 0 ≤ x.b ∧ 0 ≤ x.pins ∧ x.pins ≤ i
section
variable {i : Nat}
theorem BI.mono (h : BI most i bs) {j : Nat} (hj : i ≤ j) : BI most j bs := ⟨h.len, fun x hx => by obtain ⟨a, c, d, e⟩ := h.ok x hx; exact ⟨a, c, d, by omega⟩⟩
theorem BI.blkOk (h : BI most i bs) (hm : most ≤ 1024) : BlkOk bs := ⟨by have := h.len; omega, fun x hx => ⟨(h.ok x hx).1.one.1, by have := (h.ok x hx).1.one.2; omega⟩⟩
theorem BI.pinsOk (h : BI most i bs) (hi : i ≤ 1000) : ∀ x ∈ bs, 0 ≤ x.pins ∧ x.pins < 1000000 := fun x hx => by have := (h.ok x hx).2.2; omega
theorem BI.data (h : BI most i bs) (k : Int) : ByV (bdata bs k) := by
  unfold bdata
  cases hf : bs.find? (bhas k) with
  | none => exact ⟨[], rfl, by simp⟩
  | some x => exact (h.ok x (List.mem_of_find?_eq_some hf)).1
theorem BI.move (h : BI most i bs) {k : Int} {x y : Blk} (hf : bs.find? (bhas k) = some x) (hy : ByV y.data ∧ 0 ≤ y.b ∧ 0 ≤ y.pins ∧ y.pins ≤ i) : BI most i (bwithout bs k ++ [y]) := by
  have hm := List.mem_of_find?_eq_some hf
  have hk : x.b = k := by simpa using List.find?_some hf
  have h1 := without_less hm
  rw [hk] at h1
  refine ⟨by have := h.len; simp only [List.length_append, List.length_singleton]; omega, fun z hz => ?_⟩
  rcases List.mem_append.1 hz with hz | hz
  · exact h.ok z (mem_without.1 hz).1
  · have : z = y := by simpa using hz
    rw [this]; exact hy
theorem BI.get (h : BI most i bs) (k : Int) : BI most i (bget bs k).2 := by
  unfold bget
  cases hf : bs.find? (bhas k) with
  | none => exact h
  | some x => exact h.move hf (h.ok x (List.mem_of_find?_eq_some hf))
theorem BI.upd (h : BI most i bs) {j : Nat} (k : Int) {f : Blk → Blk} (hf : ∀ x ∈ bs, x.b = k → (f x).data = x.data ∧ (f x).b = x.b ∧ 0 ≤ (f x).pins ∧ (f x).pins ≤ j) (hij : i ≤ j) : BI most j (bupd bs k f) := by
  refine ⟨by rw [upd_length]; exact h.len, fun x hx => ?_⟩
  obtain ⟨y, hy, rfl⟩ := mem_upd.1 hx
  obtain ⟨a, c, d, e⟩ := h.ok y hy
  split
  · rename_i hyk
    obtain ⟨f1, f2, f3, f4⟩ := hf y hy hyk
    rw [f1, f2]; exact ⟨a, c, f3, f4⟩
  · exact ⟨a, c, d, by omega⟩
theorem BI.lay (h : BI most i bs) (hm : 1 ≤ most) {k : Int} (hk : 0 ≤ k) {data : List Value} (hd : ByV data) : BI most i (blay most bs k data).2 := by
  unfold blay
  cases hf : bs.find? (bhas k) with
  | some x =>
    have hx := h.ok x (List.mem_of_find?_eq_some hf)
    exact h.move hf ⟨hd, hx.2.1, hx.2.2⟩
  | none =>
    simp only
    unfold broom
    by_cases hl : (bs.length : Int) < most
    · rw [if_pos hl]
      simp only [if_true]
      refine ⟨by simp only [List.length_append, List.length_singleton]; omega, fun z hz => ?_⟩
      rcases List.mem_append.1 hz with hz | hz
      · exact h.ok z hz
      · have : z = ⟨k, data, false, 0⟩ := by simpa using hz
        rw [this]; exact ⟨hd, hk, by show (0 : Int) ≤ 0; omega, by show (0 : Int) ≤ _; omega⟩
    · rw [if_neg hl]
      cases hf2 : bs.find? bfree with
      | none => simp only; rw [if_neg (by decide)]; exact h
      | some y =>
        simp only [if_true]
        have hy := List.mem_of_find?_eq_some hf2
        have hless := without_less hy
        have hlen := h.len
        refine ⟨by simp only [List.length_append, List.length_singleton]; omega, fun z hz => ?_⟩
        rcases List.mem_append.1 hz with hz | hz
        · exact h.ok z (mem_without.1 hz).1
        · have : z = ⟨k, data, false, 0⟩ := by simpa using hz
          rw [this]; exact ⟨hd, hk, by show (0 : Int) ≤ 0; omega, by show (0 : Int) ≤ _; omega⟩
theorem BI.fill (h : BI most i bs) (hm : 1 ≤ most) (k : Int) {data : List Value} (hd : ByV data) : BI most i (bfill most bs k data).2 := by
  unfold bfill
  split
  · exact h
  · split
    · exact h
    · split
      · exact h
      · exact h.lay hm (by omega) hd
theorem BI.put (h : BI most i bs) (hm : 1 ≤ most) (k : Int) {data : List Value} (hd : ByV data) : BI most i (bput most bs k data).2 := by
  unfold bput
  split
  · exact h
  · split
    · exact h
    · have hl := h.lay hm (k := k) (by omega) hd
      split
      · exact hl.upd k (fun x hx _ => ⟨rfl, rfl, (hl.ok x hx).2.2.1, (hl.ok x hx).2.2.2⟩) (Nat.le_refl _)
      · exact hl
theorem BI.pin (h : BI most i bs) (k : Int) : BI most (i + 1) (bpin bs k).2 := by
  unfold bpin
  cases hf : bs.find? (bhas k) with
  | none => exact h.mono (by omega)
  | some x => exact h.upd k (fun x hx _ => ⟨rfl, rfl, by have := (h.ok x hx).2.2; show 0 ≤ x.pins + 1; omega, by have := (h.ok x hx).2.2; show x.pins + 1 ≤ _; omega⟩) (by omega)
theorem BI.unpin (h : BI most i bs) (hnd : (bs.map (·.b)).Nodup) (k : Int) : BI most i (bunpin bs k).2 := by
  unfold bunpin
  cases hf : bs.find? (bhas k) with
  | none => exact h
  | some x =>
    simp only
    split
    · exact h
    · rename_i hz
      have hm := List.mem_of_find?_eq_some hf
      have hk : x.b = k := by simpa using List.find?_some hf
      have hz2 : ¬ x.pins = 0 := by simpa using hz
      refine h.upd k (fun y hy hyk => ?_) (Nat.le_refl _)
      have e : y = x := by
        obtain ⟨a, ha⟩ := List.getElem?_of_mem hy
        obtain ⟨b, hb⟩ := List.getElem?_of_mem hm
        have h1 : (bs.map (·.b))[a]? = some k := by rw [List.getElem?_map, ha]; simp [hyk]
        have h2 : (bs.map (·.b))[b]? = some k := by rw [List.getElem?_map, hb]; simp [hk]
        have := (List.getElem?_inj (List.getElem?_eq_some_iff.1 h1).1 hnd).1 (h1.trans h2.symm)
        subst this
        rw [ha] at hb; exact Option.some.inj hb
      have := (h.ok y hy).2.2
      rw [e] at this ⊢
      exact ⟨rfl, rfl, by show 0 ≤ x.pins - 1; omega, by show x.pins - 1 ≤ _; omega⟩
theorem BI.clean (h : BI most i bs) (k : Int) : BI most i (bclean bs k).2 := by
  unfold bclean
  cases hf : bs.find? (bhas k) with
  | none => exact h
  | some x => exact h.upd k (fun x hx _ => ⟨rfl, rfl, (h.ok x hx).2.2⟩) (Nat.le_refl _)
theorem BI.drop (h : BI most i bs) (k : Int) : BI most i (bdrop bs k).2 := by
  unfold bdrop
  cases hf : bs.find? (bhas k) with
  | none => exact h
  | some x =>
    simp only
    split
    · exact ⟨by have := h.len; have : (bwithout bs k).length ≤ bs.length := List.length_filter_le _ _; show ((bwithout bs k).length : Int) ≤ most; omega, fun z hz => h.ok z (mem_without.1 hz).1⟩
    · exact h
end
section
variable {i : Nat} {k : Int}
theorem blk_of_row {row : List Ent} {x : Blk → Prop} (h : ∀ b ∈ row.map Ent.blk, x b) : ∀ y ∈ row, x y.blk := fun y hy => h _ (List.mem_map_of_mem hy)
theorem rget_A (h : SatL w (RCacheA xb most bs :: l)) (hb : BlkOk bs) :
    Calls Try.prog 32 #[.pointer (some ⟨xb, 0, none⟩), .int .i64 k] w (Ret fun v w' => ∃ dv, v = .tuple #[dv, .int .i64 (bget bs k).1] ∧ SatL w' (Sl 5 dv (bdata bs k) :: RCacheA xb most (bget bs k).2 :: l)) := by
  obtain ⟨row, rfl, h0⟩ := RCacheA_open.1 h
  refine (refget_ok (k := k) h0 (by simpa using hb.1) (blk_of_row hb.2)).mono ?_
  rintro e w' ⟨v, he, dv, h1, row', h2, h3⟩
  exact ⟨v, he, dv, h1, SatL.swap (RCacheA_open.2 ⟨row', h2, h3.swap⟩ : SatL w' (RCacheA _ _ _ :: _))⟩
theorem rfill_A {v : Value} {data : List Value} (h : SatL w (RCacheA xb most bs :: Sl 5 v data :: l)) (hb : bs.length ≤ 90000) (hmost : 0 ≤ most ∧ most ≤ 100000) (h1 : ∀ y ∈ data, y.oneCell' = true) (hd : data.length ≤ 100000) :
    Calls Try.prog 33 #[.pointer (some ⟨xb, 0, none⟩), .int .i64 k, v] w (Ret (RAPost xb most (Sl 5 v data :: l) (bfill most bs k data))) := by
  obtain ⟨row, rfl, h0⟩ := RCacheA_open.1 h
  exact (reffill_ok h0 (by simpa using hb) hmost h1 hd).mono fun e w' h => RBPost.toA h
theorem rput_A {v : Value} {data : List Value} (h : SatL w (RCacheA xb most bs :: Sl 5 v data :: l)) (hb : bs.length ≤ 90000) (hmost : 0 ≤ most ∧ most ≤ 100000) (h1 : ∀ y ∈ data, y.oneCell' = true) (hd : data.length ≤ 100000) :
    Calls Try.prog 34 #[.pointer (some ⟨xb, 0, none⟩), .int .i64 k, v] w (Ret (RAPost xb most (Sl 5 v data :: l) (bput most bs k data))) := by
  obtain ⟨row, rfl, h0⟩ := RCacheA_open.1 h
  exact (refput_ok h0 (by simpa using hb) hmost h1 hd).mono fun e w' h => RBPost.toA h
theorem rpin_A (h : SatL w (RCacheA xb most bs :: l)) (hb : bs.length ≤ 90000) (hp : ∀ x ∈ bs, 0 ≤ x.pins ∧ x.pins < 1000000) :
    Calls Try.prog 35 #[.pointer (some ⟨xb, 0, none⟩), .int .i64 k] w (Ret (RAPost xb most l (bpin bs k))) := by
  obtain ⟨row, rfl, h0⟩ := RCacheA_open.1 h
  exact (refpin_ok h0 (by rw [List.length_map] at hb; omega) (blk_of_row hp)).mono fun e w' h => RPost.toA (pin_blk row k) h
theorem runpin_A (h : SatL w (RCacheA xb most bs :: l)) (hb : bs.length ≤ 90000) (hp : ∀ x ∈ bs, 0 ≤ x.pins ∧ x.pins < 1000000) :
    Calls Try.prog 36 #[.pointer (some ⟨xb, 0, none⟩), .int .i64 k] w (Ret (RAPost xb most l (bunpin bs k))) := by
  obtain ⟨row, rfl, h0⟩ := RCacheA_open.1 h
  exact (refunpin_ok h0 (by rw [List.length_map] at hb; omega) (blk_of_row hp)).mono fun e w' h => RPost.toA (unpin_blk row k) h
theorem rclean_A (h : SatL w (RCacheA xb most bs :: l)) (hb : bs.length ≤ 90000) :
    Calls Try.prog 37 #[.pointer (some ⟨xb, 0, none⟩), .int .i64 k] w (Ret (RAPost xb most l (bclean bs k))) := by
  obtain ⟨row, rfl, h0⟩ := RCacheA_open.1 h
  exact (refclean_ok h0 (by rw [List.length_map] at hb; omega)).mono fun e w' h => RPost.toA (clean_blk row k) h
theorem rdrop_A (h : SatL w (RCacheA xb most bs :: l)) (hb : bs.length ≤ 90000) (hp : ∀ x ∈ bs, 0 ≤ x.pins ∧ x.pins < 1000000) :
    Calls Try.prog 38 #[.pointer (some ⟨xb, 0, none⟩), .int .i64 k] w (Ret (RAPost xb most l (bdrop bs k))) := by
  obtain ⟨row, rfl, h0⟩ := RCacheA_open.1 h
  exact (refdrop_ok h0 (by rw [List.length_map] at hb; omega) (blk_of_row hp)).mono fun e w' h => RPost.toA (drop_blk row k) h
theorem rheld_A (h : SatL w (RCacheA xb most bs :: l)) (hb : bs.length ≤ 90000) :
    Calls Try.prog 21 #[.pointer (some ⟨xb, 0, none⟩)] w (Ret (SlPost 3 ((bs.map (·.b)).map (Value.int .i64)) (RCacheA xb most bs :: l))) := by
  obtain ⟨row, rfl, h0⟩ := RCacheA_open.1 h
  refine (refheld_ok h0 (by rw [List.length_map] at hb; omega)).mono ?_
  rintro e w' ⟨v, he, hv⟩
  refine ⟨v, he, ?_⟩
  have e1 : (row.map Ent.blk).map (·.b) = row.map (·.b) := by rw [List.map_map]; rfl
  rw [e1]
  exact SatL.swap (RCacheA_open.2 ⟨row, rfl, SatL.swap (hv : SatL w' (Sl _ _ _ :: _))⟩ : SatL w' (RCacheA _ _ _ :: _))
theorem rdirty_A (h : SatL w (RCacheA xb most bs :: l)) (hb : bs.length ≤ 90000) (hp : ∀ x ∈ bs, 0 ≤ x.b) :
    Calls Try.prog 23 #[.pointer (some ⟨xb, 0, none⟩)] w (Ret (SlPost 3 ((ups (bdirty bs)).map (Value.int .i64)) (RCacheA xb most bs :: l))) := by
  obtain ⟨row, rfl, h0⟩ := RCacheA_open.1 h
  refine (refdirty_ok h0 (by rw [List.length_map] at hb; omega) (blk_of_row hp)).mono ?_
  rintro e w' ⟨v, he, hv⟩
  refine ⟨v, he, ?_⟩
  rw [dirtyE_blk]
  exact SatL.swap (RCacheA_open.2 ⟨row, rfl, SatL.swap (hv : SatL w' (Sl _ _ _ :: _))⟩ : SatL w' (RCacheA _ _ _ :: _))
theorem rcache_nodup (h : SatL w (RCacheA xb most bs :: l)) : (bs.map (·.b)).Nodup := by
  obtain ⟨row, rfl, h0⟩ := RCacheA_open.1 h
  obtain ⟨rv, hnd, _⟩ := RCache_open.1 h0
  have e1 : (row.map Ent.blk).map (·.b) = row.map (·.b) := by rw [List.map_map]; rfl
  rw [e1]; exact hnd
end
end
end Go.Proofs.Ytlmjjfgnpcghgaa
