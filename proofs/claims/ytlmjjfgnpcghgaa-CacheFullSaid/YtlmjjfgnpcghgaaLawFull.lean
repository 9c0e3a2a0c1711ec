/- CacheFull: for every input it returns true and writes nothing that was there. No condition. -/
import Derived.Test.YtlmjjfgnpcghgaaLawOldest
namespace Go.Proofs.Ytlmjjfgnpcghgaa
open Go.RowKit
set_option linter.unusedVariables false

def IsBools (w : World) (a : Option Addr) (len : Nat) (zs : List Bool) : Prop :=
  len ≤ 9223372036854775807 ∧ (0 < len → ∃ b o, a = some ⟨b, o, none⟩ ∧ ∀ i, i < len → w.cell? ⟨b, o + i, none⟩ = some (.bool (zs.getD i false)))

def fb (p : Bool) (k : Int) : Blk := if p then ⟨k, zeros, false, 1⟩ else ⟨k, zeros, true, 0⟩
def fbs (p : Nat → Bool) (k : Nat) : List Blk := (List.range k).map fun i => fb (p i) i
theorem fb_b (p : Bool) (k : Int) : (fb p k).b = k := by unfold fb; split <;> rfl
theorem fb_free (p : Bool) (k : Int) : bfree (fb p k) = false := by unfold fb; split <;> rfl
theorem fb_data (p : Bool) (k : Int) : (fb p k).data = zeros := by unfold fb; split <;> rfl
theorem fbs_succ (p : Nat → Bool) (k : Nat) : fbs p (k + 1) = fbs p k ++ [fb (p k) k] := by simp [fbs, List.range_succ]
theorem fbs_len (p : Nat → Bool) (k : Nat) : (fbs p k).length = k := by simp [fbs]
theorem fbs_none (p : Nat → Bool) (k : Nat) (x : Int) (h : x < 0 ∨ (k : Int) ≤ x) : (fbs p k).find? (bhas x) = none := by
  rw [List.find?_eq_none]
  intro y hy
  simp only [fbs, List.mem_map, List.mem_range] at hy
  obtain ⟨i, hi, rfl⟩ := hy
  simp only [bhas, fb_b, beq_iff_eq]; omega
theorem fbs_some (p : Nat → Bool) (k i : Nat) (h : i < k) : (fbs p k).find? (bhas (i : Int)) = some (fb (p i) i) := by
  induction k with
  | zero => omega
  | succ k ih =>
    rw [fbs_succ, List.find?_append]
    by_cases hk : i < k
    · rw [ih hk]; rfl
    · obtain rfl : i = k := by omega
      rw [fbs_none p i i (by omega)]
      simp [bhas, fb_b]
theorem fbs_ok (p : Nat → Bool) (k : Nat) (h : k ≤ 1000) : BlkOk (fbs p k) := by
  refine ⟨by rw [fbs_len]; omega, fun x hx => ?_⟩
  simp only [fbs, List.mem_map, List.mem_range] at hx
  obtain ⟨i, hi, rfl⟩ := hx
  rw [fb_data]; exact ⟨zeros_one, by rw [zeros_len]; omega⟩
theorem blkOk_add {bs : List Blk} {x : Blk} (h : BlkOk bs) (hx : x.data = zeros) (hl : bs.length ≤ 99999) : BlkOk (bs ++ [x]) := by
  refine ⟨by simp; omega, fun y hy => ?_⟩
  rcases List.mem_append.1 hy with hy | hy
  · exact h.2 y hy
  · simp at hy; subst hy; rw [hx]; exact ⟨zeros_one, by rw [zeros_len]; omega⟩
theorem fbs_pins (p : Nat → Bool) (k : Nat) : ∀ x ∈ fbs p k, 0 ≤ x.pins ∧ x.pins < 1000000 := by
  intro x hx
  simp only [fbs, List.mem_map, List.mem_range] at hx
  obtain ⟨i, hi, rfl⟩ := hx
  unfold fb; split <;> simp

theorem upd_last (bs : List Blk) (x : Blk) (f : Blk → Blk) (q : Int) (hq : x.b = q) (h : bs.find? (bhas q) = none) : bupd (bs ++ [x]) q f = bs ++ [f x] := by
  subst hq
  unfold bupd
  rw [List.map_append]
  congr 1
  · rw [List.map_congr_left (g := id)]; simp
    intro y hy
    have := List.find?_eq_none.1 h y hy
    simp only [bhas] at this
    simp [this]
  · simp

theorem fill_fbs (p : Nat → Bool) (k : Nat) (n : Int) (h : (k : Int) < n) : bfill n (fbs p k) k zeros = (0, fbs p k ++ [zb k]) := by
  rw [bfill_zeros n _ k (by omega) (fbs_none p k k (by omega))]
  have : broom n (fbs p k) = (0, fbs p k) := by unfold broom; rw [if_pos (by rw [fbs_len]; exact h)]
  rw [this]; simp
theorem pin_fbs (p : Nat → Bool) (k : Nat) (hp : p k = true) : bpin (fbs p k ++ [zb k]) k = (0, fbs p (k + 1)) := by
  unfold bpin
  rw [List.find?_append, fbs_none p k k (by omega)]
  have : [zb (k : Int)].find? (bhas (k : Int)) = some (zb k) := by simp [bhas, zb]
  rw [Option.none_or, this]
  simp only
  rw [upd_last (fbs p k) (zb k) _ (k : Int) rfl (fbs_none p k k (by omega)), fbs_succ, hp]
  rfl
theorem put_fbs (p : Nat → Bool) (k : Nat) (n : Int) (h : (k : Int) < n) (hp : p k = false) : bput n (fbs p k) k zeros = (0, fbs p (k + 1)) := by
  have hl : blay n (fbs p k) k zeros = (0, fbs p k ++ [zb k]) := by
    unfold blay
    rw [fbs_none p k k (by omega)]
    have : broom n (fbs p k) = (0, fbs p k) := by unfold broom; rw [if_pos (by rw [fbs_len]; exact h)]
    simp only [this, if_true]; rfl
  unfold bput
  rw [if_neg (by omega), if_neg (by rw [zeros_len]; omega), hl]
  simp only [if_true]
  rw [upd_last (fbs p k) (zb k) _ (k : Int) rfl (fbs_none p k k (by omega)), fbs_succ, hp]
  rfl
theorem room_full (p : Nat → Bool) (k : Nat) : broom (k : Int) (fbs p k) = (7, fbs p k) := by
  unfold broom
  rw [if_neg (by rw [fbs_len]; omega)]
  have : (fbs p k).find? bfree = none := by
    rw [List.find?_eq_none]
    intro y hy
    simp only [fbs, List.mem_map, List.mem_range] at hy
    obtain ⟨i, hi, rfl⟩ := hy
    rw [fb_free]; simp
  rw [this]
theorem fill_full (p : Nat → Bool) (k : Nat) (h : k ≤ 99) : bfill (k : Int) (fbs p k) 100 zeros = (7, fbs p k) := by
  rw [bfill_zeros _ _ _ (by omega) (fbs_none p k 100 (by omega)), room_full]; rfl
theorem put_full (p : Nat → Bool) (k : Nat) (h : k ≤ 99) : bput (k : Int) (fbs p k) 100 zeros = (7, fbs p k) := by
  have hl : blay (k : Int) (fbs p k) 100 zeros = (7, fbs p k) := by
    unfold blay
    rw [fbs_none p k 100 (by omega), room_full]; rfl
  unfold bput
  rw [if_neg (by omega), if_neg (by rw [zeros_len]; omega), hl]; rfl
theorem drop_full (p : Nat → Bool) (k i : Nat) (h : i < k) : bdrop (fbs p k) i = (8, fbs p k) := by
  unfold bdrop
  rw [fbs_some p k i h]
  simp only [fb_free]; rfl

/-- one of them is clean and not pinned -/
def gbs (p : Nat → Bool) (k j : Nat) : List Blk := (List.range k).map fun i => if i = j then zb i else fb (p i) i
theorem upd_gbs (p : Nat → Bool) (k j : Nat) (f : Blk → Blk) (hf : f (fb (p j) j) = zb j) : bupd (fbs p k) j f = gbs p k j := by
  unfold bupd fbs gbs
  rw [List.map_map]
  apply List.map_congr_left
  intro i _
  simp only [Function.comp, fb_b]
  by_cases h : i = j
  · subst h; simp [hf]
  · have : ¬ ((i : Int) = (j : Int)) := by omega
    simp [h, this]
theorem unpin_gbs (p : Nat → Bool) (k j : Nat) (h : j < k) (hp : p j = true) : bunpin (fbs p k) j = (0, gbs p k j) := by
  unfold bunpin
  rw [fbs_some p k j h, hp]
  simp only [fb, if_true]
  rw [if_neg (by decide), upd_gbs p k j _ (by simp [fb, hp, zb])]
theorem clean_gbs (p : Nat → Bool) (k j : Nat) (h : j < k) (hp : p j = false) : bclean (fbs p k) j = (0, gbs p k j) := by
  unfold bclean
  rw [fbs_some p k j h]
  simp only
  rw [upd_gbs p k j _ (by simp [fb, hp, zb])]
def hbs (p : Nat → Bool) (k j : Nat) : List Blk := bwithout (gbs p k j) j ++ [zb 100]
theorem gb_b (p : Nat → Bool) (j i : Nat) : (if i = j then zb i else fb (p i) i).b = i := by split; rfl; exact fb_b _ _
theorem gbs_none (p : Nat → Bool) (k j : Nat) (x : Int) (h : (k : Int) ≤ x) : (gbs p k j).find? (bhas x) = none := by
  rw [List.find?_eq_none]
  intro y hy
  simp only [gbs, List.mem_map, List.mem_range] at hy
  obtain ⟨i, hi, rfl⟩ := hy
  simp only [bhas, gb_b, beq_iff_eq]; omega
theorem gbs_len (p : Nat → Bool) (k j : Nat) : (gbs p k j).length = k := by simp [gbs]
theorem gbs_free (p : Nat → Bool) (k j : Nat) (h : j < k) : (gbs p k j).find? bfree = some (zb j) := by
  induction k with
  | zero => omega
  | succ k ih =>
    have hs : gbs p (k + 1) j = gbs p k j ++ [if k = j then zb k else fb (p k) k] := by simp [gbs, List.range_succ]
    rw [hs, List.find?_append]
    by_cases hk : j < k
    · rw [ih hk]; rfl
    · obtain rfl : j = k := by omega
      have : (gbs p j j).find? bfree = none := by
        rw [List.find?_eq_none]
        intro y hy
        simp only [gbs, List.mem_map, List.mem_range] at hy
        obtain ⟨i, hi, rfl⟩ := hy
        rw [if_neg (by omega), fb_free]; simp
      rw [this, Option.none_or, if_pos rfl]
      rfl
theorem fill_gbs (p : Nat → Bool) (k j : Nat) (h : j < k) (hk : k ≤ 99) : bfill (k : Int) (gbs p k j) 100 zeros = (0, hbs p k j) := by
  rw [bfill_zeros _ _ _ (by omega) (gbs_none p k j 100 (by omega))]
  have : broom (k : Int) (gbs p k j) = (0, bwithout (gbs p k j) j) := by
    unfold broom
    rw [if_neg (by rw [gbs_len]; omega), gbs_free p k j h]; rfl
  rw [this]; rfl
theorem get_gone (p : Nat → Bool) (k j : Nat) (hk : k ≤ 99) (h : j < k) : bget (hbs p k j) j = (17, hbs p k j) := by
  have : (hbs p k j).find? (bhas (j : Int)) = none := by
    rw [List.find?_eq_none]
    intro y hy
    unfold hbs bwithout at hy
    rcases List.mem_append.1 hy with hy | hy
    · have := (List.mem_filter.1 hy).2
      simpa [bhas] using this
    · simp at hy; subst hy; simp [bhas, zb]; omega
  unfold bget; rw [this]
theorem get_new (p : Nat → Bool) (k j : Nat) (hk : k ≤ 99) : bget (hbs p k j) 100 = (0, hbs p k j) := by
  have hn : (bwithout (gbs p k j) j).find? (bhas 100) = none := by
    rw [List.find?_eq_none]
    intro y hy
    have := (List.mem_filter.1 hy).1
    exact List.find?_eq_none.1 (gbs_none p k j 100 (by omega)) y this
  have hf : (hbs p k j).find? (bhas 100) = some (zb 100) := by
    unfold hbs; rw [List.find?_append, hn]; rfl
  unfold bget; rw [hf]
  simp only
  congr 1
  unfold hbs
  have : bwithout (bwithout (gbs p k j) j ++ [zb 100]) 100 = bwithout (gbs p k j) j := by
    unfold bwithout at *
    rw [List.filter_append]
    have e : (List.filter (fun y : Blk => !(y.b == (j : Int))) (gbs p k j)).filter (fun y => !(y.b == (100 : Int))) = List.filter (fun y : Blk => !(y.b == (j : Int))) (gbs p k j) := by
      rw [List.filter_eq_self]
      intro y hy
      have := List.find?_eq_none.1 hn y hy
      simp only [bhas, Bool.not_eq_true] at this
      rw [this]; rfl
    rw [e]; simp [zb]
  rw [this]
theorem hbs_len (p : Nat → Bool) (k j : Nat) (h : j < k) : (hbs p k j).length = k := by
  unfold hbs bwithout
  rw [List.length_append]
  have : ∀ k, (List.filter (fun y : Blk => !(y.b == (j : Int))) (gbs p k j)).length = if j < k then k - 1 else k := by
    intro k
    induction k with
    | zero => rfl
    | succ k ih =>
      have hs : gbs p (k + 1) j = gbs p k j ++ [if k = j then zb k else fb (p k) k] := by simp [gbs, List.range_succ]
      rw [hs, List.filter_append, List.length_append, ih]
      by_cases hk : k = j
      · subst hk; simp [zb]
      · have hb : ((if k = j then zb k else fb (p k) k).b == (j : Int)) = false := by rw [gb_b]; simp; omega
        simp only [List.filter_cons, hb, Bool.not_false, if_true, List.filter_nil, List.length_cons, List.length_nil]
        split <;> split <;> omega
  rw [this, if_pos h]; simp; omega
theorem gbs_ok (p : Nat → Bool) (k j : Nat) (h : k ≤ 1000) : BlkOk (gbs p k j) := by
  refine ⟨by rw [gbs_len]; omega, fun x hx => ?_⟩
  simp only [gbs, List.mem_map, List.mem_range] at hx
  obtain ⟨i, hi, rfl⟩ := hx
  have : (if i = j then zb i else fb (p i) i).data = zeros := by split; rfl; exact fb_data _ _
  rw [this]; exact ⟨zeros_one, by rw [zeros_len]; omega⟩
theorem hbs_ok (p : Nat → Bool) (k j : Nat) (h : k ≤ 1000) : BlkOk (hbs p k j) := by
  unfold hbs
  refine blkOk_add ⟨?_, fun x hx => (gbs_ok p k j h).2 x (List.mem_filter.1 hx).1⟩ rfl ?_
  · exact Nat.le_trans (List.length_filter_le _ _) (gbs_ok p k j h).1
  · have := List.length_filter_le (fun y : Blk => !(y.b == (j : Int))) (gbs p k j)
    rw [gbs_len] at this
    unfold bwithout; omega

def FullRel (n : Nat) (pb bb : Nat) (p : Nat → Bool) (w : World) (i : Value) (wr : World) : Prop :=
  ∃ k : Nat, k ≤ n ∧ i = .int .i64 k ∧ SatL wr (CacheA pb n (fbs p k) :: Sl 5 (.slice (some ⟨bb, 0, none⟩) 512 512) zeros :: [old w])

set_option maxRecDepth 100000 in
set_option maxHeartbeats 4000000 in
theorem full_walk (a0 a2 : Int) (a1 : Option Addr) (len1 cap1 : Nat) (z1 : List Bool) (w : World) (w1 : IsBools w a1 len1 z1) :
    Calls Try.prog 4 #[.int .i64 a0, .slice a1 len1 cap1, .int .i64 a2] w (Ret (BoolPost [old w] true)) := by
  have hk := known_ok (sat_old w)
  have hwi := fun (l : List HP) (w : World) (h : SatL w l) => within_ok a0 20 (by omega) h
  obtain ⟨hb0, hb1⟩ := within_bd a0 20 (by omega)
  generalize withinI a0 20 = m at *
  have hnew := fun (w' : World) (h : SatL w' [old w]) => new_A (l := [old w]) (1 + m) h (by omega)
  obtain ⟨hlen, hacc⟩ := w1
  have Hacc := hid hacc; clear hacc
  have t0 : True := trivial
  go_enter Try.func4, Try.ntmps4
  go_wp2_with (first
    | (go_at_call 7; (with_reducible refine hk.mono ?_); rintro e w2 ⟨v, rfl, rfl, hs2⟩)
    | (go_at_call 8; (with_reducible refine (hwi _ _ hs2).mono ?_); rintro e w3 ⟨v, rfl, rfl, hs3⟩)
    | (go_at_call 9; (with_reducible refine (hnew _ hs3).mono ?_); rintro e w4 ⟨v, rfl, pb, rfl, hs4⟩)
    | (have _t := t0; refine wpList_make_sl rfl (.const (.int .i64 512)) (.const (.int .i64 512)) rfl elem_byte 512 rfl rfl hs4 (by omega) (by omega) ?_; intro w5 hs5; clear t0))
  clear hnew hwi hk
  obtain ⟨n, hn⟩ : ∃ n : Nat, (n : Int) = 1 + m := ⟨(1 + m).toNat, by omega⟩
  have hn1 : 1 ≤ n ∧ n ≤ 20 := by omega
  have hs6 : SatL w5 (CacheA pb n [] :: Sl 5 (.slice (some ⟨w4.heap.size, 0, none⟩) 512 512) zeros :: [old w]) := by rw [hn]; exact hs5.swap
  rw [← hn]
  clear hn hb0 hb1 hs5
  generalize w4.heap.size = bb at *
  obtain ⟨p, hp⟩ : ∃ p : Nat → Bool, p = fun i => decide (i < len1) && z1.getD i false := ⟨_, rfl⟩
  have Hp := hid hp; clear hp
  go_loopw [10] (fun i wr => FullRel n pb bb p w i wr) (fun i _ => n - (intOf i).toNat)
  case atStart => exact ⟨0, by omega, rfl, hs6⟩
  case round =>
    obtain ⟨k, hk, rfl, hs⟩ := hrel
    by_cases hlt : k < n
    · have hfi := fun (w' : World) (h : SatL w' (CacheA pb n (fbs p k) :: Sl 5 (.slice (some ⟨bb, 0, none⟩) 512 512) zeros :: [old w])) => fill_A (k := k) h (fbs_ok p k (by omega)) (by omega) zeros_one (by rw [zeros_len]; omega)
      have hpi := fun (w' : World) (h : SatL w' (CacheA pb n (fbs p k ++ [zb k]) :: Sl 5 (.slice (some ⟨bb, 0, none⟩) 512 512) zeros :: [old w])) => pin_A (k := k) h (by
        intro x hx
        rcases List.mem_append.1 hx with hx | hx
        · exact fbs_pins p k x hx
        · simp at hx; subst hx; simp [zb])
      have hpu := fun (w' : World) (h : SatL w' (CacheA pb n (fbs p k) :: Sl 5 (.slice (some ⟨bb, 0, none⟩) 512 512) zeros :: [old w])) => put_A (k := k) h (fbs_ok p k (by omega)) (by omega) zeros_one (by rw [zeros_len]; omega)
      simp only [fill_fbs p k n (by omega)] at hfi
      have hbel := (SatL.pull hs 2 : SatL wr (old w :: _)).below
      by_cases hl : k < len1
      · obtain ⟨ub, uo, rfl, hu⟩ := Hacc.out (by omega)
        have hc0 := hu k hl
        have hc : wr.cell? ⟨ub, uo + k, none⟩ = some (.bool (z1.getD k false)) := (hbel.cell (p := ⟨ub, uo + k, none⟩) (World.block_lt_of_cell? w _ hc0)).trans hc0
        clear hu hc0
        cases hz : z1.getD k false with
        | true =>
          rw [hz] at hc
          have hpk : p k = true := by rw [Hp.out]; simp only [hl, decide_true, Bool.true_and]; exact hz
          simp only [pin_fbs p k hpk] at hpi
          clear hz hpu hpk
          go_wp2_with (first
            | (go_at_call 11; (with_reducible refine (hfi _ hs).mono ?_); rintro e w2 ⟨v, rfl, rfl, hs2⟩)
            | (go_at_call 13; (with_reducible refine (hpi _ hs2).mono ?_); rintro e w3 ⟨v, rfl, rfl, hs3⟩))
          go_roundw
          case rel => exact ⟨k + 1, by omega, by go_num, hs3⟩
          case measure => simp [intOf]; omega
        | false =>
          rw [hz] at hc
          have hpk : p k = false := by rw [Hp.out]; simp only [hl, decide_true, Bool.true_and]; exact hz
          simp only [put_fbs p k n (by omega) hpk] at hpu
          clear hz hpi hpk hfi
          go_wp2_with (go_at_call 14; (with_reducible refine (hpu _ hs).mono ?_); rintro e w2 ⟨v, rfl, rfl, hs2⟩)
          go_roundw
          case rel => exact ⟨k + 1, by omega, by go_num, hs2⟩
          case measure => simp [intOf]; omega
      · have hpk : p k = false := by rw [Hp.out]; simp [hl]
        simp only [put_fbs p k n (by omega) hpk] at hpu
        clear hpi hpk hfi
        go_wp2_with (go_at_call 14; (with_reducible refine (hpu _ hs).mono ?_); rintro e w2 ⟨v, rfl, rfl, hs2⟩)
        go_roundw
        case rel => exact ⟨k + 1, by omega, by go_num, hs2⟩
        case measure => simp [intOf]; omega
    · obtain rfl : k = n := by omega
      have hbd := within_bd a2 k (by omega)
      have hwk := fun (l : List HP) (w : World) (h : SatL w l) => within_ok a2 k (by omega) h
      obtain ⟨j, hj⟩ : ∃ j : Nat, (j : Int) = withinI a2 k := ⟨(withinI a2 k).toNat, by omega⟩
      rw [← hj] at hbd hwk
      have hjk : j < k := by omega
      clear hj hbd
      have q1 := fun (w' : World) (h : SatL w' (CacheA pb k (fbs p k) :: Sl 5 (.slice (some ⟨bb, 0, none⟩) 512 512) zeros :: [old w])) => fill_A (k := 100) h (fbs_ok p k (by omega)) (by omega) zeros_one (by rw [zeros_len]; omega)
      simp only [fill_full p k (by omega)] at q1
      have q2 := fun (w' : World) (h : SatL w' (CacheA pb k (fbs p k) :: Sl 5 (.slice (some ⟨bb, 0, none⟩) 512 512) zeros :: [old w])) => put_A (k := 100) h (fbs_ok p k (by omega)) (by omega) zeros_one (by rw [zeros_len]; omega)
      simp only [put_full p k (by omega)] at q2
      have q3 := fun (w' : World) (h : SatL w' (CacheA pb k (fbs p k) :: Sl 5 (.slice (some ⟨bb, 0, none⟩) 512 512) zeros :: [old w])) => held_A h (by rw [fbs_len]; omega)
      have q4 := fun (w' : World) (h : SatL w' (CacheA pb k (fbs p k) :: Sl 5 (.slice (some ⟨bb, 0, none⟩) 512 512) zeros :: [old w])) => drop_A (k := j) h
      simp only [drop_full p k j hjk] at q4
      have q5 := fun (w' : World) (h : SatL w' (CacheA pb k (fbs p k) :: Sl 5 (.slice (some ⟨bb, 0, none⟩) 512 512) zeros :: [old w])) => unpin_A (k := j) h (fbs_pins p k)
      have q6 := fun (w' : World) (h : SatL w' (CacheA pb k (fbs p k) :: Sl 5 (.slice (some ⟨bb, 0, none⟩) 512 512) zeros :: [old w])) => clean_A (k := j) h
      have q7 := fun (w' : World) (h : SatL w' (CacheA pb k (gbs p k j) :: Sl 5 (.slice (some ⟨bb, 0, none⟩) 512 512) zeros :: [old w])) => fill_A (k := 100) h (gbs_ok p k j (by omega)) (by omega) zeros_one (by rw [zeros_len]; omega)
      simp only [fill_gbs p k j hjk (by omega)] at q7
      have q8 : ∀ (w' : World), SatL w' (CacheA pb k (hbs p k j) :: Sl 5 (.slice (some ⟨bb, 0, none⟩) 512 512) zeros :: [old w]) → Calls Try.prog 10 #[.pointer (some ⟨pb, 0, none⟩), .int .i64 j] w' (Ret fun u w2 => ∃ dv, u = .tuple #[dv, .int .i64 17] ∧ SatL w2 (CacheA pb k (hbs p k j) :: Sl 5 (.slice (some ⟨bb, 0, none⟩) 512 512) zeros :: [old w])) := fun w' h =>
        (get_A (k := j) h (hbs_ok p k j (by omega))).mono fun e w2 ⟨u, he, dv, hu, hs⟩ => ⟨u, he, dv, by rw [hu, get_gone p k j (by omega) hjk], by have := hs.tail; rwa [get_gone p k j (by omega) hjk] at this⟩
      have q9 : ∀ (w' : World), SatL w' (CacheA pb k (hbs p k j) :: Sl 5 (.slice (some ⟨bb, 0, none⟩) 512 512) zeros :: [old w]) → Calls Try.prog 10 #[.pointer (some ⟨pb, 0, none⟩), .int .i64 100] w' (Ret fun u w2 => ∃ dv, u = .tuple #[dv, .int .i64 0] ∧ SatL w2 (CacheA pb k (hbs p k j) :: Sl 5 (.slice (some ⟨bb, 0, none⟩) 512 512) zeros :: [old w])) := fun w' h =>
        (get_A (k := 100) h (hbs_ok p k j (by omega))).mono fun e w2 ⟨u, he, dv, hu, hs⟩ => ⟨u, he, dv, by rw [hu, get_new p k j (by omega)], by have := hs.tail; rwa [get_new p k j (by omega)] at this⟩
      have q0 := fun (w' : World) (h : SatL w' (CacheA pb k (hbs p k j) :: Sl 5 (.slice (some ⟨bb, 0, none⟩) 512 512) zeros :: [old w])) => held_A h (by rw [hbs_len p k j hjk]; omega)
      have l1 : ((fbs p k).map fun x => Value.int .i64 x.b).length = k := by rw [List.length_map, fbs_len]
      have l2 : ((hbs p k j).map fun x => Value.int .i64 x.b).length = k := by rw [List.length_map, hbs_len p k j hjk]
      have L1 := hid l1; have L2 := hid l2; clear l1 l2
      have hbel := (SatL.pull hs 2 : SatL wr (old w :: _)).below
      have cases3 : (∃ ub uo, a1 = some ⟨ub, uo, none⟩ ∧ j < len1 ∧ w.cell? ⟨ub, uo + j, none⟩ = some (.bool true) ∧ p j = true) ∨ (∃ ub uo, a1 = some ⟨ub, uo, none⟩ ∧ j < len1 ∧ w.cell? ⟨ub, uo + j, none⟩ = some (.bool false) ∧ p j = false) ∨ (¬ j < len1 ∧ p j = false) := by
        by_cases hl : j < len1
        · obtain ⟨ub, uo, hu, hcu⟩ := Hacc.out (by omega)
          have hc0 := hcu j hl
          have hpj : p j = z1.getD j false := by rw [Hp.out]; simp only [hl, decide_true, Bool.true_and]
          cases hz : z1.getD j false with
          | true => rw [hz] at hc0 hpj; exact .inl ⟨ub, uo, hu, hl, hc0, hpj⟩
          | false => rw [hz] at hc0 hpj; exact .inr (.inl ⟨ub, uo, hu, hl, hc0, hpj⟩)
        · exact .inr (.inr ⟨hl, by rw [Hp.out]; simp [hl]⟩)
      clear hlt hn1 hk
      have t1 : True := trivial
      rcases cases3 with ⟨ub, uo, rfl, hl, hc0, hpj⟩ | ⟨ub, uo, rfl, hl, hc0, hpj⟩ | ⟨hl, hpj⟩
      · simp only [unpin_gbs p k j hjk hpj] at q5
        clear q6 hpj
        go_wp2_with (first
          | (have _t := t1; go_at_call 11; (with_reducible refine (q1 _ hs).mono ?_); rintro e x1 ⟨v, rfl, rfl, e1⟩; clear t1)
          | (go_at_call 14; (with_reducible refine (q2 _ e1).mono ?_); rintro e x2 ⟨v, rfl, rfl, e2⟩; have t2 : True := trivial)
          | (have _t := t2; go_at_call 12; (with_reducible refine (q3 _ e2).mono ?_); rintro e x3 ⟨v, rfl, e3⟩; clear t2; obtain ⟨ha, hc, rfl, hh1, hh2⟩ := Sl.valn e3 L1.out)
          | (go_at_call 8; (refine (hwk _ _ (SatL.tail e3)).mono ?_); rintro e x4 ⟨v, rfl, rfl, e4⟩; have b4 := (SatL.pull e4 2 : SatL x4 (old w :: _)).below; have d4 : x4.cell? ⟨ub, uo + j, none⟩ = some (.bool true) := (b4.cell (p := ⟨ub, uo + j, none⟩) (World.block_lt_of_cell? w _ hc0)).trans hc0)
          | (go_at_call 15; (with_reducible refine (q4 _ e4).mono ?_); rintro e x5 ⟨v, rfl, rfl, e5⟩)
          | (go_at_call 16; (with_reducible refine (q5 _ e5).mono ?_); rintro e x6 ⟨v, rfl, rfl, e6⟩; have t3 : True := trivial)
          | (have _t := t3; go_at_call 11; (with_reducible refine (q7 _ e6).mono ?_); rintro e x7 ⟨v, rfl, rfl, e7⟩; clear t3; have t4 : True := trivial)
          | (have _t := t4; go_at_call 10; (with_reducible refine (q8 _ e7).mono ?_); rintro e x8 ⟨v, rfl, dv, rfl, e8⟩; clear t4; have t5 : True := trivial)
          | (have _t := t5; go_at_call 10; (with_reducible refine (q9 _ e8).mono ?_); rintro e x9 ⟨v, rfl, dv2, rfl, e9⟩; clear t5; have t6 : True := trivial)
          | (have _t := t6; go_at_call 12; (with_reducible refine (q0 _ e9).mono ?_); rintro e y0 ⟨v, rfl, e0⟩; obtain ⟨ga, gc, rfl, gg1, gg2⟩ := Sl.valn e0 L2.out))
        go_ret
        exact Ret.mk ⟨rfl, SatL.tail (SatL.tail (SatL.tail e0))⟩
      · simp only [clean_gbs p k j hjk hpj] at q6
        clear q5 hpj
        go_wp2_with (first
          | (have _t := t1; go_at_call 11; (with_reducible refine (q1 _ hs).mono ?_); rintro e x1 ⟨v, rfl, rfl, e1⟩; clear t1)
          | (go_at_call 14; (with_reducible refine (q2 _ e1).mono ?_); rintro e x2 ⟨v, rfl, rfl, e2⟩; have t2 : True := trivial)
          | (have _t := t2; go_at_call 12; (with_reducible refine (q3 _ e2).mono ?_); rintro e x3 ⟨v, rfl, e3⟩; clear t2; obtain ⟨ha, hc, rfl, hh1, hh2⟩ := Sl.valn e3 L1.out)
          | (go_at_call 8; (refine (hwk _ _ (SatL.tail e3)).mono ?_); rintro e x4 ⟨v, rfl, rfl, e4⟩; have b4 := (SatL.pull e4 2 : SatL x4 (old w :: _)).below; have d4 : x4.cell? ⟨ub, uo + j, none⟩ = some (.bool false) := (b4.cell (p := ⟨ub, uo + j, none⟩) (World.block_lt_of_cell? w _ hc0)).trans hc0)
          | (go_at_call 15; (with_reducible refine (q4 _ e4).mono ?_); rintro e x5 ⟨v, rfl, rfl, e5⟩)
          | (go_at_call 17; (with_reducible refine (q6 _ e5).mono ?_); rintro e x6 ⟨v, rfl, rfl, e6⟩; have t3 : True := trivial)
          | (have _t := t3; go_at_call 11; (with_reducible refine (q7 _ e6).mono ?_); rintro e x7 ⟨v, rfl, rfl, e7⟩; clear t3; have t4 : True := trivial)
          | (have _t := t4; go_at_call 10; (with_reducible refine (q8 _ e7).mono ?_); rintro e x8 ⟨v, rfl, dv, rfl, e8⟩; clear t4; have t5 : True := trivial)
          | (have _t := t5; go_at_call 10; (with_reducible refine (q9 _ e8).mono ?_); rintro e x9 ⟨v, rfl, dv2, rfl, e9⟩; clear t5; have t6 : True := trivial)
          | (have _t := t6; go_at_call 12; (with_reducible refine (q0 _ e9).mono ?_); rintro e y0 ⟨v, rfl, e0⟩; obtain ⟨ga, gc, rfl, gg1, gg2⟩ := Sl.valn e0 L2.out))
        go_ret
        exact Ret.mk ⟨rfl, SatL.tail (SatL.tail (SatL.tail e0))⟩
      · simp only [clean_gbs p k j hjk hpj] at q6
        clear q5 hpj
        go_wp2_with (first
          | (have _t := t1; go_at_call 11; (with_reducible refine (q1 _ hs).mono ?_); rintro e x1 ⟨v, rfl, rfl, e1⟩; clear t1)
          | (go_at_call 14; (with_reducible refine (q2 _ e1).mono ?_); rintro e x2 ⟨v, rfl, rfl, e2⟩; have t2 : True := trivial)
          | (have _t := t2; go_at_call 12; (with_reducible refine (q3 _ e2).mono ?_); rintro e x3 ⟨v, rfl, e3⟩; clear t2; obtain ⟨ha, hc, rfl, hh1, hh2⟩ := Sl.valn e3 L1.out)
          | (go_at_call 8; (refine (hwk _ _ (SatL.tail e3)).mono ?_); rintro e x4 ⟨v, rfl, rfl, e4⟩)
          | (go_at_call 15; (with_reducible refine (q4 _ e4).mono ?_); rintro e x5 ⟨v, rfl, rfl, e5⟩)
          | (go_at_call 17; (with_reducible refine (q6 _ e5).mono ?_); rintro e x6 ⟨v, rfl, rfl, e6⟩; have t3 : True := trivial)
          | (have _t := t3; go_at_call 11; (with_reducible refine (q7 _ e6).mono ?_); rintro e x7 ⟨v, rfl, rfl, e7⟩; clear t3; have t4 : True := trivial)
          | (have _t := t4; go_at_call 10; (with_reducible refine (q8 _ e7).mono ?_); rintro e x8 ⟨v, rfl, dv, rfl, e8⟩; clear t4; have t5 : True := trivial)
          | (have _t := t5; go_at_call 10; (with_reducible refine (q9 _ e8).mono ?_); rintro e x9 ⟨v, rfl, dv2, rfl, e9⟩; clear t5; have t6 : True := trivial)
          | (have _t := t6; go_at_call 12; (with_reducible refine (q0 _ e9).mono ?_); rintro e y0 ⟨v, rfl, e0⟩; obtain ⟨ga, gc, rfl, gg1, gg2⟩ := Sl.valn e0 L2.out))
        go_ret
        exact Ret.mk ⟨rfl, SatL.tail (SatL.tail (SatL.tail e0))⟩
end Go.Proofs.Ytlmjjfgnpcghgaa
