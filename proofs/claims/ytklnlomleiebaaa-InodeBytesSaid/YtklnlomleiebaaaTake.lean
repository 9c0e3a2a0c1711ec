/- take and give of a view whose bitmaps are told by a set of numbers. -/
import Derived.Test.YtklnlomleiebaaaViewB
import Derived.Laws.BitsAllLaws
import Derived.RegionTactic
import Derived.BigRegion
namespace Go.Proofs.Ytklnlomleiebaaa
set_option linter.unusedVariables false
set_option linter.unusedSimpArgs false
open Go.RowKit

theorem bitByte_bit (P : Nat → Bool) (q t : Nat) (ht : t < 8) : (bitByte P q).toNat / 2 ^ t % 2 = if P (8 * q + t) then 1 else 0 := by
  have h := bsum_bit 8 (fun t => P (8 * q + t)) t
  rw [← bitByte_nat, Nat.testBit_eq_decide_div_mod_eq] at h
  have h2 : (bitByte P q).toNat / 2 ^ t % 2 < 2 := Nat.mod_lt _ (by omega)
  simp only [ht, decide_true, Bool.true_and] at h
  cases hp : P (8 * q + t) with
  | true => rw [hp] at h; simpa using h
  | false => rw [hp] at h; simp at h; simp; omega
theorem bitByte_full {P : Nat → Bool} {q : Nat} (h : ∀ t, t < 8 → P (8 * q + t) = true) : (bitByte P q).toNat = 255 := by
  rw [bitByte_nat, bsum_congr (g := fun _ => true) (fun t ht => h t ht)]
  rfl
theorem bitByte_lt (P : Nat → Bool) (q : Nat) : (bitByte P q).toNat < 256 := u8_lt _
theorem and1_u8 (y : Nat) (hy : y < 256) : bits .and .u8 (y : Int) 1 = ((y % 2 : Nat) : Int) := by
  have := u8_and_nat y 1 hy (by omega)
  rw [show ((1 : Nat) : Int) = 1 from rfl] at this
  rw [this, Nat.and_one_is_mod]
theorem and_shr_u8 (x t : Nat) (hx : x < 256) : bits .and .u8 ((x : Int) / 2 ^ t) 1 = ((x / 2 ^ t % 2 : Nat) : Int) := by
  have e : (x : Int) / 2 ^ t = ((x / 2 ^ t : Nat) : Int) := by
    rw [show (2 : Int) ^ t = ((2 ^ t : Nat) : Int) by rw [Int.natCast_pow]; rfl]
    rfl
  rw [e]
  exact and1_u8 _ (Nat.lt_of_le_of_lt (Nat.div_le_self _ _) hx)

section
variable {w : World} {L : List HP} {vb mb i tb dt : Nat} {rows : List (Option (List UInt8))} {puts : Puts}
set_option maxRecDepth 100000 in
set_option maxHeartbeats 2000000 in
theorem take_ok {fr n u : Nat} {U : Nat → Bool} (h : SatL w (ViewR vb mb i tb dt rows puts :: L)) (hfr : fr + n ≤ rows.length) (hr5 : Rows512 rows) (hp5 : Puts512 puts) (hn : rows.length ≤ 1000000)
    (hb : ∀ k, k < n → viewAt rows puts (fr + k) = bitsN 512 (fun j => U (k * 4096 + j))) (hu : u < n * 4096) (hU : U u = false) (hmin : ∀ j, j < u → U j = true) :
    Calls Try.prog 45 #[.pointer (some ⟨vb, 0, none⟩), .int .i64 fr, .int .i64 n] w (Ret fun v w' => v = .tuple #[.int .i64 u, .nilIface] ∧ SatL w' (ViewR vb mb i tb dt rows (upo puts ((fr + u / 4096 : Nat) : Int) (bitsN 512 (fun j => U (u / 4096 * 4096 + j) || j == u % 4096))) :: L)) := by
  have hget := fun (w : World) (h : SatL w (ViewR vb mb i tb dt rows puts :: L)) (k : Nat) (hk : k < n) => get_ok (k := fr + k) h (by omega) hr5 hp5 hn
  have hput := fun (w : World) (dv : Value) (k : Nat) (d : List UInt8) (L : List HP) (h : SatL w (SlB 5 dv d :: ViewR vb mb i tb dt rows puts :: L)) (hk : k < n) (hd : d.length = 512) => put_ok (k := fr + k) h (by omega) hd
  have n1 : n ≤ 1000000 := by omega
  have n2 : fr ≤ 1000000 := by omega
  clear hr5 hp5 hn hfr
  go_enter Try.func45, Try.ntmps45
  go_wp2
  go_loopw [15] (fun kk wr => ∃ k : Nat, k * 4096 ≤ u ∧ kk = .int .i64 k ∧ SatL wr (ViewR vb mb i tb dt rows puts :: L)) (fun kk _ => n - (intOf kk).toNat)
  case atStart => exact ⟨0, by omega, rfl, h⟩
  case round =>
    clear h
    obtain ⟨k, hk, rfl, hs⟩ := hrel
    have hkn : k < n := by omega
    have hg := hget _ hs k hkn
    rw [hb k hkn, Int.natCast_add] at hg
    have hpu := fun (w : World) (dv : Value) (d : List UInt8) (L : List HP) (h : SatL w (SlB 5 dv d :: ViewR vb mb i tb dt rows puts :: L)) (hd : d.length = 512) => hput w dv k d L h hkn hd
    simp only [Int.natCast_add] at hpu
    clear hget hput hb
    go_wp2_with (go_at_call 16; (with_reducible refine hg.mono ?_); rintro e w1 ⟨v, rfl, dv, rfl, hs1⟩; obtain ⟨av, cv, rfl, q1, q2⟩ := Sl.valn hs1 (m := 512) (by rw [bvs_len, bitsN_len]); obtain ⟨b, off, rfl⟩ := Sl.addr hs1 (by omega))
    go_loopw [31] (fun ii wr => ∃ q : Nat, q ≤ 512 ∧ k * 4096 + 8 * q ≤ u ∧ ii = .int .i64 q ∧ SatL wr (SlB 5 (.slice (some ⟨b, off, none⟩) 512 cv) (bitsN 512 (fun j => U (k * 4096 + j))) :: ViewR vb mb i tb dt rows puts :: L)) (fun ii _ => 512 - (intOf ii).toNat)
    case atStart => exact ⟨0, by omega, by omega, rfl, hs1⟩
    case round =>
      clear hs1 hs hg
      obtain ⟨q, hq, hq2, rfl, hs⟩ := hrel
      by_cases hq5 : q < 512
      · have hc := SlB.cell hs (i := q) (by rw [bitsN_len]; exact hq5)
        rw [bitsN_getD _ hq5] at hc
        have hxl := bitByte_lt (fun j => U (k * 4096 + j)) q
        have q5 : (q : Int) < 512 := by omega
        by_cases hfull : k * 4096 + 8 * q + 8 ≤ u
        · have hx : (bitByte (fun j => U (k * 4096 + j)) q).toNat = 255 := bitByte_full (fun t ht => hmin _ (by omega))
          rw [hx] at hc
          clear hxl
          go_wp2
          go_roundw
          case rel => exact ⟨q + 1, by omega, by omega, by go_num, hs⟩
          case measure => simp [intOf]; omega
        · obtain ⟨s, rfl⟩ : ∃ s, u = k * 4096 + 8 * q + s := ⟨u - (k * 4096 + 8 * q), by omega⟩
          have hs8 : s < 8 := by omega
          have hbit := fun t ht => bitByte_bit (fun j => U (k * 4096 + j)) q t ht
          have hset0 := bitsN_set (n := 512) (fun j => U (k * 4096 + j)) (i := 8 * q + s) (by omega)
          rw [show (8 * q + s) / 8 = q by omega, show (8 * q + s) % 8 = s by omega] at hset0
          generalize hX : (bitByte (fun j => U (k * 4096 + j)) q).toNat = x at *
          have hx255 : ¬ ((x : Int) = 255) := by
            intro hx
            have hx : x = 255 := by omega
            have := hbit s hs8
            rw [if_neg (by simpa [Nat.add_assoc] using hU), hx] at this
            rcases (by omega : s = 0 ∨ s = 1 ∨ s = 2 ∨ s = 3 ∨ s = 4 ∨ s = 5 ∨ s = 6 ∨ s = 7) with rfl | rfl | rfl | rfl | rfl | rfl | rfl | rfl <;> simp at this
          have hxl : x < 256 := by rw [← hX]; exact u8_lt _
          have hset := hid hset0
          have HX := hid hX
          clear hX hset0
          go_wp2
          go_loopw [13] (fun tt wr => ∃ t : Nat, t ≤ s ∧ tt = .int .i64 t ∧ SatL wr (SlB 5 (.slice (some ⟨b, off, none⟩) 512 cv) (bitsN 512 (fun j => U (k * 4096 + j))) :: ViewR vb mb i tb dt rows puts :: L)) (fun tt _ => 8 - (intOf tt).toNat)
          case atStart => exact ⟨0, by omega, rfl, hs⟩
          case round =>
            clear hc hs
            obtain ⟨t, ht, rfl, hs⟩ := hrel
            by_cases hts : t < s
            · have e2 : bits .and .u8 ((x : Int) / 2 ^ t) 1 = 1 := by rw [and_shr_u8 x t hxl, hbit t (by omega), if_pos (by rw [← Nat.add_assoc]; exact hmin _ (by omega))]; rfl
              clear hbit hset
              go_wp2
              go_roundw
              case rel => exact ⟨t + 1, by omega, by go_num, hs⟩
              case measure => simp [intOf]; omega
            · obtain rfl : t = s := by omega
              have e2 : bits .and .u8 ((x : Int) / 2 ^ t) 1 = 0 := by rw [and_shr_u8 x t hxl, hbit t (by omega), if_neg (by rw [← Nat.add_assoc]; simp [hU])]; rfl
              have hc := SlB.cell hs (i := q) (by rw [bitsN_len]; exact hq5)
              rw [bitsN_getD _ hq5, HX.out] at hc
              have hf := Sl.free hs (off + q)
              have Hset := hid (fun (x : Value) => Sl.set hs (i := q) (by rw [bvs_len, bitsN_len]; exact hq5) x)
              clear hbit
              go_wp2
              go_region
              have h7 := sat_drew.2 (Hset.out (.int .u8 (bits .or .u8 (x : Int) ((2 : Int) ^ t % 256))))
              have hob := or_bit x t hxl (by omega)
              generalize bits .or .u8 (x : Int) ((2 : Int) ^ t % 256) = z at *
              have h8 : SatL (wr.setCell ⟨b, off + q, none⟩ (.int .u8 z)).drew (SlB 5 (.slice (some ⟨b, off, none⟩) 512 cv) (bitsN 512 (fun j => U (k * 4096 + j) || j == 8 * q + t)) :: ViewR vb mb i tb dt rows puts :: L) := by
                rw [← hset.out]
                show SatL _ (Sl _ _ (((bitsN 512 (fun j => U (k * 4096 + j))).set q (UInt8.ofNat (x ||| 2 ^ t))).map bv) :: _)
                rw [List.map_set, show bv (UInt8.ofNat (x ||| 2 ^ t)) = .int .u8 z by rw [hob]]
                exact h7
              have hp := hpu _ _ _ _ h8 (bitsN_len _)
              have hK : (k * 4096 + 8 * q + t) / 4096 = k := by omega
              have hM : (k * 4096 + 8 * q + t) % 4096 = 8 * q + t := by omega
              clear h7 h8 Hset hset hs hpu hob
              go_wp2_with (go_at_call 20; (refine hp.mono ?_); rintro e w2 ⟨v, rfl, rfl, hs1⟩)
              go_ret2
              refine Ret.mk ⟨?_, ?_⟩
              · rw [show ((k * 4096 + 8 * q + t : Nat) : Int) = (k : Int) * 4096 + 8 * (q : Int) + (t : Int) by omega]
                rfl
              · rw [hK, hM]
                exact SatL.tail hs1.swap
      · obtain rfl : q = 512 := by omega
        go_wp2
        go_roundw
        case rel => exact ⟨k + 1, by omega, by go_num, hs.tail⟩
        case measure => simp [intOf]; omega
end
end Go.Proofs.Ytklnlomleiebaaa
