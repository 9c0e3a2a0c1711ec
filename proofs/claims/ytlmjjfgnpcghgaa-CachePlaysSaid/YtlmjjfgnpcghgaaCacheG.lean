/- The cache's calls, said of the blocks that it holds; the chapter's example; within. -/
import Derived.Test.YtlmjjfgnpcghgaaCacheF
namespace Go.Proofs.Ytlmjjfgnpcghgaa
set_option linter.unusedVariables false
set_option linter.unusedSimpArgs false
open Go.RowKit

/-- a cache that holds these blocks -/
def CacheA (pb : Nat) (most : Int) (bs : List Blk) : HP := ex fun row => sep [pur (row.map Ent.blk = bs), CacheR pb most row]
def BlkOk (bs : List Blk) : Prop := bs.length ≤ 100000 ∧ ∀ x ∈ bs, (∀ y ∈ x.data, y.oneCell' = true) ∧ x.data.length ≤ 100000

section
variable {w : World} {l : List HP} {pb : Nat} {most : Int} {bs : List Blk}

theorem CacheA_open : SatL w (CacheA pb most bs :: l) ↔ ∃ row, row.map Ent.blk = bs ∧ SatL w (CacheR pb most row :: l) := by
  simp only [CacheA, sat_ex, sat_sep, List.cons_append, List.nil_append, sat_pur]

def APost (pb : Nat) (most : Int) (l : List HP) (r : Int × List Blk) (v : Value) (w : World) : Prop := v = .int .i64 r.1 ∧ SatL w (CacheA pb most r.2 :: l)
def AGet (pb : Nat) (most : Int) (l : List HP) (bs : List Blk) (k : Int) (v : Value) (w : World) : Prop :=
  ∃ dv, v = .tuple #[dv, .int .i64 (bget bs k).1] ∧ SatL w (Sl 5 dv (bdata bs k) :: CacheA pb most (bget bs k).2 :: l)

theorem BPost.toA {r : Int × List Blk} {e : Ending} (h : Ret (BPost pb most l r) e w) : Ret (APost pb most l r) e w := by
  obtain ⟨v, he, hv, row, h1, h2⟩ := h
  exact ⟨v, he, hv, CacheA_open.2 ⟨row, h1, h2⟩⟩

theorem new_A (n : Int) (h : SatL w l) (hn : 1 ≤ n ∧ n ≤ 1024) : Calls Try.prog 9 #[.int .i64 n] w
    (Ret fun v w' => ∃ pb, v = .tuple #[.pointer (some ⟨pb, 0, none⟩), .int .i64 0] ∧ SatL w' (CacheA pb n [] :: l)) := by
  refine (new_ok n h).mono ?_
  rintro e w' ⟨v, he, hv⟩
  rw [if_neg (by omega)] at hv
  obtain ⟨pb, h1, h2⟩ := hv
  exact ⟨v, he, pb, h1, CacheA_open.2 ⟨[], rfl, h2⟩⟩

theorem get_A {k : Int} (h : SatL w (CacheA pb most bs :: l)) (hb : BlkOk bs) :
    Calls Try.prog 10 #[.pointer (some ⟨pb, 0, none⟩), .int .i64 k] w (Ret (AGet pb most l bs k)) := by
  obtain ⟨row, rfl, h0⟩ := CacheA_open.1 h
  refine (get_ok h0 (by simpa using hb.1) (fun x hx => hb.2 x.blk (List.mem_map.2 ⟨x, hx, rfl⟩))).mono ?_
  rintro e w' ⟨v, he, dv, h1, row', h2, h3⟩
  exact ⟨v, he, dv, h1, (CacheA_open.2 ⟨row', h2, h3.swap⟩ : SatL w' (CacheA _ _ _ :: _)).swap⟩

theorem fill_A {k : Int} {v : Value} {data : List Value} (h : SatL w (CacheA pb most bs :: Sl 5 v data :: l)) (hb : BlkOk bs) (hmost : 0 ≤ most ∧ most ≤ 100000)
    (h1 : ∀ y ∈ data, y.oneCell' = true) (hd : data.length ≤ 100000) :
    Calls Try.prog 11 #[.pointer (some ⟨pb, 0, none⟩), .int .i64 k, v] w (Ret (APost pb most (Sl 5 v data :: l) (bfill most bs k data))) := by
  obtain ⟨row, rfl, h0⟩ := CacheA_open.1 h
  exact (fill_ok h0 (by simpa using hb.1) hmost h1 hd).mono fun e w' h => BPost.toA h
theorem put_A {k : Int} {v : Value} {data : List Value} (h : SatL w (CacheA pb most bs :: Sl 5 v data :: l)) (hb : BlkOk bs) (hmost : 0 ≤ most ∧ most ≤ 100000)
    (h1 : ∀ y ∈ data, y.oneCell' = true) (hd : data.length ≤ 100000) :
    Calls Try.prog 14 #[.pointer (some ⟨pb, 0, none⟩), .int .i64 k, v] w (Ret (APost pb most (Sl 5 v data :: l) (bput most bs k data))) := by
  obtain ⟨row, rfl, h0⟩ := CacheA_open.1 h
  exact (put_ok h0 (by simpa using hb.1) hmost h1 hd).mono fun e w' h => BPost.toA h
theorem held_A (h : SatL w (CacheA pb most bs :: l)) (hb : bs.length ≤ 100000) :
    Calls Try.prog 12 #[.pointer (some ⟨pb, 0, none⟩)] w (Ret (SlPost 3 (bs.map fun x => .int .i64 x.b) (CacheA pb most bs :: l))) := by
  obtain ⟨row, rfl, h0⟩ := CacheA_open.1 h
  refine (held_ok h0 (by simpa using hb)).mono ?_
  rintro e w' ⟨v, he, hv⟩
  refine ⟨v, he, ?_⟩
  have h2 := CacheA_open.2 ⟨row, rfl, hv.swap⟩
  rw [List.map_map]
  exact h2.swap

def bpin (bs : List Blk) (k : Int) : Int × List Blk := match bs.find? (bhas k) with
  | none => (17, bs)
  | some x => (0, bupd bs k fun x => { x with pins := x.pins + 1 })
def bunpin (bs : List Blk) (k : Int) : Int × List Blk := match bs.find? (bhas k) with
  | none => (17, bs)
  | some x => if x.pins == 0 then (1, bs) else (0, bupd bs k fun x => { x with pins := x.pins - 1 })
def bclean (bs : List Blk) (k : Int) : Int × List Blk := match bs.find? (bhas k) with
  | none => (17, bs)
  | some x => (0, bupd bs k fun x => { x with dirty := false })

theorem CPost.toA {r : Int × List Ent} {q : Int × List Blk} (hq : q = (r.1, r.2.map Ent.blk)) {e : Ending} (h : Ret (CPost pb most l r) e w) : Ret (APost pb most l q) e w := by
  subst hq
  obtain ⟨v, he, hv, h2⟩ := h
  exact ⟨v, he, hv, CacheA_open.2 ⟨_, rfl, h2⟩⟩

theorem pin_A {k : Int} (h : SatL w (CacheA pb most bs :: l)) (hp : ∀ x ∈ bs, 0 ≤ x.pins ∧ x.pins < 1000000) :
    Calls Try.prog 13 #[.pointer (some ⟨pb, 0, none⟩), .int .i64 k] w (Ret (APost pb most l (bpin bs k))) := by
  obtain ⟨row, rfl, h0⟩ := CacheA_open.1 h
  refine (pin_ok h0 k (fun x hx => hp x.blk (List.mem_map.2 ⟨x, hx, rfl⟩))).mono fun e w' h => CPost.toA ?_ h
  unfold bpin pinS
  rw [blk_find]
  cases row.find? (has k) with
  | none => rfl
  | some x => simp only [Option.map_some]; rw [blk_upd _ _ _ (fun x => { x with pins := x.pins + 1 }) (fun x => rfl)]
theorem unpin_A {k : Int} (h : SatL w (CacheA pb most bs :: l)) (hp : ∀ x ∈ bs, 0 ≤ x.pins ∧ x.pins < 1000000) :
    Calls Try.prog 16 #[.pointer (some ⟨pb, 0, none⟩), .int .i64 k] w (Ret (APost pb most l (bunpin bs k))) := by
  obtain ⟨row, rfl, h0⟩ := CacheA_open.1 h
  refine (unpin_ok h0 k (fun x hx => hp x.blk (List.mem_map.2 ⟨x, hx, rfl⟩))).mono fun e w' h => CPost.toA ?_ h
  unfold bunpin unpinS
  rw [blk_find]
  cases row.find? (has k) with
  | none => rfl
  | some x =>
    simp only [Option.map_some]
    rw [show x.blk.pins = x.pins from rfl]
    split
    · rfl
    · rw [blk_upd _ _ _ (fun x => { x with pins := x.pins - 1 }) (fun x => rfl)]
theorem clean_A {k : Int} (h : SatL w (CacheA pb most bs :: l)) :
    Calls Try.prog 17 #[.pointer (some ⟨pb, 0, none⟩), .int .i64 k] w (Ret (APost pb most l (bclean bs k))) := by
  obtain ⟨row, rfl, h0⟩ := CacheA_open.1 h
  refine (clean_ok h0 k).mono fun e w' h => CPost.toA ?_ h
  unfold bclean cleanS
  rw [blk_find]
  cases row.find? (has k) with
  | none => rfl
  | some x => simp only [Option.map_some]; rw [blk_upd _ _ _ (fun x => { x with dirty := false }) (fun x => rfl)]
theorem drop_A {k : Int} (h : SatL w (CacheA pb most bs :: l)) :
    Calls Try.prog 15 #[.pointer (some ⟨pb, 0, none⟩), .int .i64 k] w (Ret (APost pb most l (bdrop bs k))) := by
  obtain ⟨row, rfl, h0⟩ := CacheA_open.1 h
  exact (drop_ok h0).mono fun e w' h => BPost.toA h

/-- within: a number from 0 to n - 1 -/
def withinI (a n : Int) : Int := if a.tmod n < 0 then a.tmod n + n else a.tmod n
theorem within_bd (a n : Int) (hn : 0 < n) : 0 ≤ withinI a n ∧ withinI a n < n := by
  unfold withinI
  have h1 := Int.tmod_lt_of_pos a hn
  have h2 : -n < a.tmod n := by
    have := Int.lt_tmod_of_pos a hn
    omega
  split <;> omega

theorem within_ok (a n : Int) (hn : 0 < n ∧ n ≤ 1000000) (h : SatL w l) : Calls Try.prog 8 #[.int .i64 a, .int .i64 n] w (Ret (IntPost l (withinI a n))) := by
  have h1 := Int.tmod_lt_of_pos a hn.1
  have h2 : -n < a.tmod n := by
    have := Int.lt_tmod_of_pos a hn.1
    omega
  have hz : (n == 0) = false := by simp; omega
  by_cases hneg : a.tmod n < 0
  · have Hq := hid (show withinI a n = a.tmod n + n by simp [withinI, hneg])
    go_enter Try.func8, Try.ntmps8
    go_wp2
    go_ret
    exact Ret.mk ⟨by rw [Hq.out]; rfl, h⟩
  · have Hq := hid (show withinI a n = a.tmod n by simp [withinI, hneg])
    go_enter Try.func8, Try.ntmps8
    go_wp2
    go_ret
    exact Ret.mk ⟨by rw [Hq.out]; rfl, h⟩
end
end Go.Proofs.Ytlmjjfgnpcghgaa
