/- DiskPicks: any choice of what stays can be picked. No condition. -/
import Derived.Test.YtjjiljijcigekaaLaw2K
namespace Go.Proofs.Ytjjiljijcigekaa
set_option linter.unusedVariables false
set_option linter.unusedSimpArgs false
open Go.RowKit
def zeroB : List UInt8 := List.replicate 512 0
/-- a disk of nine, one of whose blocks was written k times -/
def pickS (p k : Nat) : Dsk := ⟨9, fun _ => zeroB, fun j => if j = p then (List.range k).map (fun i => blockB (i + 1)) else []⟩
theorem pickS_zero (p : Nat) : pickS p 0 = Dsk.new 9 := by
  unfold pickS Dsk.new
  congr 1
  funext j
  split <;> rfl
theorem pickS_put (p k : Nat) : (pickS p k).put p (blockB (k + 1)) = pickS p (k + 1) := by
  unfold pickS Dsk.put
  congr 1
  funext j
  simp only
  split
  · rw [if_pos trivial, List.range_succ, List.map_append]; rfl
  · rfl
theorem pickS_len (p k : Nat) (hk : k ≤ 20) : ∀ i, ((pickS p k).V i).length ≤ 100000 := by
  intro i
  show (if _ then _ else _ : List (List UInt8)).length ≤ _
  split
  · rw [List.length_map, List.length_range]; omega
  · simp
theorem pickS_V (p k : Nat) : (pickS p k).V p = (List.range k).map (fun i => blockB (i + 1)) := if_pos rfl
theorem pickS_dirty {p : Nat} (hp : p < 9) (k : Nat) : (pickS p k).dirtyN = if k = 0 then [] else [p] := by
  by_cases hk : k = 0
  · subst hk
    rw [if_pos rfl, pickS_zero]
    rfl
  · rw [if_neg hk]
    refine dirtyN_one hp fun j => ?_
    show (if _ then _ else _ : List (List UInt8)) ≠ [] ↔ _
    by_cases hj : j = p
    · rw [if_pos hj]
      simp [hj, hk]
    · rw [if_neg hj]
      exact ⟨fun h => absurd rfl h, fun h => absurd h hj⟩
def pickR (z : Int) (k : Nat) : List UInt8 := if wi z (k + 1) = 0 then zeroB else blockB (wi z (k + 1))
theorem pickS_read {p : Nat} (hp : p < 9) (k : Nat) (z : Int) : ((pickS p k).crash 1 (fun _ => z)).read p 1 = pickR z k := by
  rw [read_one]
  show (pickS p k).cp 1 (fun _ => z) _ p = _
  rw [pickS_dirty hp]
  by_cases hk : k = 0
  · subst hk
    rw [if_pos rfl]
    show zeroB = _
    unfold pickR
    rw [if_pos (by have := wi_lt z (show 0 < 0 + 1 by omega); omega)]
  · rw [if_neg hk]
    show (if _ then _ else _) = _
    rw [pickS_dirty hp, if_neg hk, pickS_V, List.length_map, List.length_range]
    have e : pickN 1 (fun _ => z) 0 k = wi z (k + 1) := by unfold pickN wi; rw [if_pos (by omega)]
    rw [e]
    unfold pickR
    by_cases h0 : wi z (k + 1) = 0
    · rw [if_pos h0, if_neg (fun h => h.2 h0)]; rfl
    · rw [if_neg h0, if_pos ⟨rfl, h0⟩]
      have hl := wi_lt z (show 0 < k + 1 by omega)
      rw [List.getD_eq_getElem?_getD, List.getElem?_map, List.getElem?_range (by omega), Option.map_some, Option.getD_some, Nat.sub_add_cancel (by omega)]
theorem pickR_len (z : Int) (k : Nat) : (pickR z k).length = 512 := by unfold pickR; split; exact List.length_replicate ..; exact blkN_len _ _
set_option maxRecDepth 100000 in
set_option maxHeartbeats 8000000 in
theorem picks_walk (a n z : Int) (hz : -9223372036854775808 ≤ z ∧ z ≤ 9223372036854775807) (w : World) : Calls Try.prog 6 #[.int .i64 a, .int .i64 n, .int .i64 z] w (Ret fun v w' => v = .bool true ∧ SatL w' [old w]) := by
  have hk := known_ok (sat_old w)
  have hwn := fun (w : World) => within_ok n (n := 20) (by omega) w
  have hwa := fun (w : World) => within_ok a (n := 9) (by omega) w
  have hN := wi_lt n (show 0 < 20 by omega)
  have hp := wi_lt a (show 0 < 9 by omega)
  rw [show ((20 : Nat) : Int) = 20 from rfl] at hwn
  rw [show ((9 : Nat) : Int) = 9 from rfl] at hwa
  generalize wi n 20 = N at *
  generalize wi a 9 = p at *
  have hnew := fun (w' : World) (h : SatL w' [old w]) => new_ok (n := 9) (by omega) h
  rw [show ((9 : Nat) : Int) = 9 from rfl, ← pickS_zero p] at hnew
  have hwz := fun (w : World) => within_ok z (n := N + 1) (by omega) w
  simp only [Int.natCast_add, Int.natCast_one] at hwz
  have hKl := wi_lt z (show 0 < N + 1 by omega)
  have hdN : (pickS p N).dirtyN.length = min N 1 := by rw [pickS_dirty hp]; split <;> simp <;> omega
  have hcr := fun (w' : World) (db nb T : Nat) (L' : List HP) (h : SatL w' (DskR db (pickS p N) :: cl nb T #[.int .i64 z] :: L')) => crash_ok (c := 1) (Z := fun _ => z) (fun i _ => hz) (fun i => Nat.le_trans (pickS_len p N (by omega) i) (by omega)) h gives_int1
  rw [hdN] at hcr
  have hrd := fun (w' : World) (db : Nat) (L' : List HP) (h : SatL w' (DskR db ((pickS p N).crash 1 (fun _ => z)) :: L')) => read_ok (p := p) (n := 1) (by omega) (by show p + 1 ≤ 9; omega) (fun i => by show ([] : List (List UInt8)).length ≤ _; simp) h
  rw [pickS_read hp, show ((1 : Nat) : Int) = 1 from rfl] at hrd
  have hver := fun (w' : World) (db : Nat) (L' : List HP) (h : SatL w' (DskR db (pickS p N) :: L')) => versions_ok (i := p) (show p < 9 from hp) (Nat.le_trans (pickS_len p N (by omega) p) (by omega)) h
  rw [pickS_V, List.length_map, List.length_range] at hver
  have Hwn := hid hwn
  have Hwa := hid hwa
  have Hwz := hid hwz
  have Hnew := hid hnew
  have Hcr := hid hcr
  have Hrd := hid hrd
  have Hver := hid hver
  clear hwn hwa hwz hnew hcr hrd hver hdN hz
  go_enter Try.func6, Try.ntmps6
  go_wp2_with (first
    | (go_at_call 8; (with_reducible refine hk.mono ?_); rintro e w1 ⟨v, rfl, rfl, h1⟩)
    | (go_at_call 11; (with_reducible refine (Hwn.out _).mono ?_); rintro e w' ⟨v, rfl, rfl, rfl⟩)
    | (go_at_call 11; (with_reducible refine (Hwa.out _).mono ?_); rintro e w' ⟨v, rfl, rfl, rfl⟩)
    | (go_at_call 9; (with_reducible refine (Hnew.out _ h1).mono ?_); rintro e w2 ⟨v, rfl, db, rfl, h2⟩))
  go_loopw [9] (fun i wr => ∃ j : Nat, j ≤ N ∧ i = .int .i64 j ∧ SatL wr (DskR db (pickS p j) :: [old w])) (fun i _ => N - (intOf i).toNat)
  case atStart => exact ⟨0, by omega, rfl, h2⟩
  case round =>
    clear h2 hk h1
    obtain ⟨j, hj, rfl, hs⟩ := hrel
    by_cases hlt : j < N
    · have e1 : IntKind.u8.wrap ((j : Int) + 1) = (j : Int) + 1 := by rw [IntKind.wrap_u8']; omega
      have hbl := block_ok (b := j + 1) (by omega) hs
      simp only [Int.natCast_add, Int.natCast_one] at hbl
      have hwr := fun (w' : World) (va : Option Addr) (vn vc : Nat) (L' : List HP) (h : SatL w' (DskR db (pickS p j) :: L')) (g : Gives L' (RdB (.slice va vn vc) (blockB (j + 1)))) => write1_ok (p := p) (blkN_len 512 (j + 1)) (show p < 9 from hp) (pickS_len p j (by omega)) h g
      rw [pickS_put] at hwr
      have hb256 : (j + 1) < 256 := by omega
      have Hwr := hid hwr
      clear hwr hs
      generalize blockB (j + 1) = B at *
      go_wp2_with (first
        | (go_at_call 12; (with_reducible refine hbl.mono ?_); rintro e w3 ⟨v, rfl, va, vc, rfl, v1, h3⟩)
        | (go_at_call 10; (with_reducible refine (Hwr.out _ _ _ _ _ h3.swap SlB.gives).mono ?_); rintro e w4 ⟨v, rfl, rfl, h4a⟩; have h4 := SatL.tail h4a.swap; clear h3 h4a))
      go_roundw
      case rel => exact ⟨j + 1, by omega, by go_num, h4⟩
      case measure => simp [intOf]; omega
    · obtain rfl : j = N := by omega
      have hs6 := (hs.alloc (.cells #[.int .i64 z] 3)).swap
      have hzb := bvs_zeros 512
      have Hzb := hid (show bvs zeroB = List.replicate 512 (.int .u8 0) from hzb)
      have hpr : pickR z j = if wi z (j + 1) = 0 then zeroB else blockB (wi z (j + 1)) := rfl
      clear hzb
      generalize wi z (j + 1) = k at *
      generalize zeroB = ZB at *
      have hbk := fun (w' : World) (L' : List HP) (h : SatL w' L') => block_ok (b := k) (by omega) h
      have Hbk := hid hbk
      have Hpr := hid hpr
      clear hbk hpr
      generalize pickR z j = PR at *
      have hmin : ((min j 1 : Nat) : Int) = min (j : Int) 1 := by omega
      by_cases h0 : k = 0
      · have Hpz := hid (show PR = ZB by rw [Hpr.out, if_pos h0])
        have hkz : (k : Int) = 0 := by omega
        clear h0
        go_wp2_with (first
          | (go_at_call 18; (with_reducible refine (Hver.out _ _ _ hs).mono ?_); rintro e w' ⟨v, rfl, rfl, rfl⟩)
          | (go_at_call 17; (with_reducible refine (Hcr.out _ _ _ _ _ hs6).mono ?_); rintro e w7 ⟨v, rfl, rfl, h7a⟩; have h7 := SatL.tail h7a.swap; clear h7a)
          | (go_at_call 13; (with_reducible refine (Hrd.out _ _ _ h7).mono ?_); rintro e w8 ⟨v, rfl, rv, rfl, h8⟩)
          | (refine wpList_make_sl rfl (.const (.int .i64 512)) (.const (.int .i64 512)) rfl elem_byte 512 rfl rfl h8 (by omega) (by omega) ?_; intro w9 hs9; rw [← Hzb.out] at hs9; have zc := RdB.conv (SlB.rd (hs9 : SatL w9 (SlB 5 _ ZB :: _))); have rc := RdB.conv (SlB.rd (hs9.pull 1 : SatL w9 (SlB _ _ PR :: _))); rw [Hpz.out] at rc)
          | (go_at_call 11; (with_reducible refine (Hwz.out _).mono ?_); rintro e w' ⟨v, rfl, rfl, rfl⟩))
        go_ret
        exact Ret.mk ⟨rfl, hs9.tail.tail.tail⟩
      · have Hpz := hid (show PR = blockB k by rw [Hpr.out, if_neg h0])
        have hkz : (0 : Int) < (k : Int) := by omega
        have ew : IntKind.u8.wrap (k : Int) = (k : Int) := by rw [IntKind.wrap_u8']; omega
        clear h0
        generalize blockB k = KB at *
        go_wp2_with (first
          | (go_at_call 18; (with_reducible refine (Hver.out _ _ _ hs).mono ?_); rintro e w' ⟨v, rfl, rfl, rfl⟩)
          | (go_at_call 17; (with_reducible refine (Hcr.out _ _ _ _ _ hs6).mono ?_); rintro e w7 ⟨v, rfl, rfl, h7a⟩; have h7 := SatL.tail h7a.swap; clear h7a)
          | (go_at_call 13; (with_reducible refine (Hrd.out _ _ _ h7).mono ?_); rintro e w8 ⟨v, rfl, rv, rfl, h8⟩)
          | (refine wpList_make_sl rfl (.const (.int .i64 512)) (.const (.int .i64 512)) rfl elem_byte 512 rfl rfl h8 (by omega) (by omega) ?_; intro w9 hs9; rw [← Hzb.out] at hs9; have zc := RdB.conv (SlB.rd (hs9 : SatL w9 (SlB 5 _ ZB :: _))))
          | (go_at_call 11; (with_reducible refine (Hwz.out _).mono ?_); rintro e w' ⟨v, rfl, rfl, rfl⟩)
          | (go_at_call 12; (with_reducible refine (Hbk.out _ _ hs9).mono ?_); rintro e w10 ⟨v, rfl, xa, xc, rfl, x1, h10⟩; have kc := RdB.conv (SlB.rd h10); have rc := RdB.conv (SlB.rd (h10.pull 2 : SatL w10 (SlB _ _ PR :: _))); rw [Hpz.out] at rc))
        go_ret
        exact Ret.mk ⟨rfl, h10.tail.tail.tail.tail⟩
end Go.Proofs.Ytjjiljijcigekaa
