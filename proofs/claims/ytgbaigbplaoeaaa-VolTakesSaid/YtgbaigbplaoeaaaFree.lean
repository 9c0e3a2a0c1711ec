/- free of a view: how many bits are not set. -/
import Derived.Test.YtgbaigbplaoeaaaGive
namespace Go.Proofs.Ytgbaigbplaoeaaa
set_option linter.unusedVariables false
set_option linter.unusedSimpArgs false
open Go.RowKit

/-- how many of the first m are not set -/
def nfree (U : Nat → Bool) : Nat → Nat
  | 0 => 0
  | m + 1 => nfree U m + if U m then 0 else 1
theorem nfree_le (U : Nat → Bool) (m : Nat) : nfree U m ≤ m := by
  induction m with
  | zero => exact Nat.le_refl _
  | succ m ih => simp only [nfree]; split <;> omega
theorem nfree_congr {U V : Nat → Bool} {m : Nat} (h : ∀ j, j < m → U j = V j) : nfree U m = nfree V m := by
  induction m with
  | zero => rfl
  | succ m ih => simp only [nfree]; rw [ih fun j hj => h j (by omega), h m (by omega)]
theorem nfree_none {U : Nat → Bool} {a m : Nat} (ha : a ≤ m) (h : ∀ j, a ≤ j → j < m → U j = true) : nfree U m = nfree U a := by
  induction m with
  | zero => obtain rfl : a = 0 := by omega
            rfl
  | succ m ih =>
    by_cases e : a = m + 1
    · rw [e]
    · simp only [nfree]; rw [ih (by omega) fun j h1 h2 => h j h1 (by omega), h m (by omega) (by omega)]; rfl

/-- how many bits of a byte are set -/
def pop8 (x : Nat) : Nat := x % 2 + x / 2 % 2 + x / 4 % 2 + x / 8 % 2 + x / 16 % 2 + x / 32 % 2 + x / 64 % 2 + x / 128 % 2
theorem pop8_dec : ∀ x : Fin 256, x.val ≠ 0 → pop8 (x.val &&& (x.val - 1)) + 1 = pop8 x.val := by decide +kernel
theorem pop8_pos : ∀ x : Fin 256, x.val ≠ 0 → 0 < pop8 x.val := by decide +kernel
theorem pop8_not : ∀ b0 b1 b2 b3 b4 b5 b6 b7 : Bool, pop8 (255 - ((if b0 then 1 else 0) + 2 * ((if b1 then 1 else 0) + 2 * ((if b2 then 1 else 0) + 2 * ((if b3 then 1 else 0) + 2 * ((if b4 then 1 else 0) + 2 * ((if b5 then 1 else 0) + 2 * ((if b6 then 1 else 0) + 2 * ((if b7 then 1 else 0) + 2 * 0)))))))))
    = (((((((0 + if b0 then 0 else 1) + if b1 then 0 else 1) + if b2 then 0 else 1) + if b3 then 0 else 1) + if b4 then 0 else 1) + if b5 then 0 else 1) + if b6 then 0 else 1) + if b7 then 0 else 1 := by decide +kernel
theorem nfree_byte (U : Nat → Bool) (m q : Nat) : nfree U (m + 8 * (q + 1)) = nfree U (m + 8 * q) + pop8 (255 - (bitByte (fun j => U (m + j)) q).toNat) := by
  rw [bitByte_nat]
  have := pop8_not (U (m + (8 * q))) (U (m + (8 * q + 1))) (U (m + (8 * q + 2))) (U (m + (8 * q + 3))) (U (m + (8 * q + 4))) (U (m + (8 * q + 5))) (U (m + (8 * q + 6))) (U (m + (8 * q + 7)))
  have e : bsum 8 (fun t => U (m + (8 * q + t))) = ((if U (m + (8 * q)) then 1 else 0) + 2 * ((if U (m + (8 * q + 1)) then 1 else 0) + 2 * ((if U (m + (8 * q + 2)) then 1 else 0) + 2 * ((if U (m + (8 * q + 3)) then 1 else 0) + 2 * ((if U (m + (8 * q + 4)) then 1 else 0) + 2 * ((if U (m + (8 * q + 5)) then 1 else 0) + 2 * ((if U (m + (8 * q + 6)) then 1 else 0) + 2 * ((if U (m + (8 * q + 7)) then 1 else 0) + 2 * 0)))))))) := rfl
  rw [e, this]
  show nfree U (m + 8 * q + 1 + 1 + 1 + 1 + 1 + 1 + 1 + 1) = _
  simp only [nfree, Nat.add_assoc, Nat.zero_add]
theorem not_u8 (x : Nat) (hx : x < 256) : bits .xor .u8 IntKind.u8.max (x : Int) = ((255 - x : Nat) : Int) := by
  have h := u8_xor_nat 255 x (by omega) hx
  have e : ∀ y : Fin 256, 255 ^^^ y.val = 255 - y.val := by decide +kernel
  rw [show (255 : Nat) ^^^ x = 255 - x from e ⟨x, hx⟩] at h
  exact h
section
variable {w : World} {L : List HP} {vb i tb dt : Nat} {rows : List (Option (List UInt8))} {puts : Puts}
set_option maxRecDepth 100000 in
set_option maxHeartbeats 2000000 in
theorem free_ok {fr n : Nat} {U : Nat → Bool} (h : SatL w (ViewR vb i tb dt rows puts :: L)) (hfr : fr + n ≤ rows.length) (hr5 : Rows512 rows) (hp5 : Puts512 puts) (hn : rows.length ≤ 1000000)
    (hb : ∀ k, k < n → viewAt rows puts (fr + k) = bitsN 512 (fun j => U (k * 4096 + j))) :
    Calls Try.prog 46 #[.pointer (some ⟨vb, 0, none⟩), .int .i64 fr, .int .i64 n] w (Ret fun v w' => v = .tuple #[.int .i64 (nfree U (n * 4096)), .nilIface] ∧ SatL w' (ViewR vb i tb dt rows puts :: L)) := by
  have hget := fun (w : World) (h : SatL w (ViewR vb i tb dt rows puts :: L)) (k : Nat) (hk : k < n) => get_ok (k := fr + k) h (by omega) hr5 hp5 hn
  have n1 : n ≤ 1000000 := by omega
  have n2 : fr ≤ 1000000 := by omega
  clear hr5 hp5 hn hfr
  go_enter Try.func46, Try.ntmps46
  go_wp2
  go_loopw [8, 15] (fun c kk wr => ∃ k : Nat, k ≤ n ∧ kk = .int .i64 k ∧ c = .int .i64 (nfree U (k * 4096)) ∧ SatL wr (ViewR vb i tb dt rows puts :: L)) (fun _ kk _ => n - (intOf kk).toNat)
  case atStart => exact ⟨0, by omega, rfl, by rw [Nat.zero_mul]; rfl, h⟩
  case round =>
    clear h
    obtain ⟨k, hk, rfl, rfl, hs⟩ := hrel
    by_cases hkn : k < n
    · have hg := hget _ hs k hkn
      rw [hb k hkn, Int.natCast_add] at hg
      clear hget hb
      have h0 := nfree_le U (k * 4096)
      generalize hC : nfree U (k * 4096) = C at *
      have HC := hid hC
      clear hC
      go_wp2_with (go_at_call 33; (with_reducible refine hg.mono ?_); rintro e w1 ⟨v, rfl, dv, rfl, hs1⟩; obtain ⟨av, cv, rfl, q1, q2⟩ := Sl.valn hs1 (m := 512) (by rw [bvs_len, bitsN_len]); obtain ⟨b, off, rfl⟩ := Sl.addr hs1 (by omega))
      go_loopw [8, 31] (fun c ii wr => ∃ q : Nat, q ≤ 512 ∧ ii = .int .i64 q ∧ c = .int .i64 (nfree U (k * 4096 + 8 * q)) ∧ SatL wr (SlB 5 (.slice (some ⟨b, off, none⟩) 512 cv) (bitsN 512 (fun j => U (k * 4096 + j))) :: ViewR vb i tb dt rows puts :: L)) (fun _ ii _ => 512 - (intOf ii).toNat)
      case atStart => exact ⟨0, by omega, rfl, by rw [Nat.mul_zero, Nat.add_zero, HC.out], hs1⟩
      case round =>
        clear hs1 hs hg
        obtain ⟨q, hq, rfl, rfl, hs⟩ := hrel
        by_cases hq5 : q < 512
        · have hc := SlB.cell hs (i := q) (by rw [bitsN_len]; exact hq5)
          rw [bitsN_getD _ hq5] at hc
          have hxl := bitByte_lt (fun j => U (k * 4096 + j)) q
          have q5 : (q : Int) < 512 := by omega
          have h1 := nfree_le U (k * 4096 + 8 * q)
          have hby := nfree_byte U (k * 4096) q
          generalize hD : nfree U (k * 4096 + 8 * q) = D at *
          generalize (bitByte (fun j => U (k * 4096 + j)) q).toNat = x at *
          have Hby := hid hby
          clear hby hD
          have hno := not_u8 x hxl
          have hsg : IntKind.u8.signed = false := rfl
          generalize hY : 255 - x = y at *
          have hyl : y < 256 := by omega
          have Hby : Hid (nfree U (k * 4096 + 8 * (q + 1)) = D + pop8 y) := Hby
          clear hY
          go_wp2
          go_loopw [8, 13] (fun c yy wr => ∃ (z m : Nat), z < 256 ∧ m + pop8 z = D + pop8 y ∧ m ≤ D + pop8 y ∧ yy = .int .u8 z ∧ c = .int .i64 m ∧ SatL wr (SlB 5 (.slice (some ⟨b, off, none⟩) 512 cv) (bitsN 512 (fun j => U (k * 4096 + j))) :: ViewR vb i tb dt rows puts :: L)) (fun _ yy _ => (intOf yy).toNat)
          case atStart => exact ⟨y, D, hyl, rfl, by omega, rfl, rfl, hs⟩
          case round =>
            clear hs
            obtain ⟨z, m, hz, hm, hm2, rfl, rfl, hs⟩ := hrel
            have hpl : pop8 y ≤ 8 := by unfold pop8; omega
            generalize pop8 y = py at *
            by_cases hz0 : z = 0
            · subst hz0
              go_wp2
              go_roundw
              case rel => exact ⟨q + 1, by omega, by go_num, by rw [Hby.out, ← hm]; rfl, hs⟩
              case measure => simp [intOf]; omega
            · have hz1 : ((z : Int) != 0) = true := by simp; omega
              have hz2 : (1 : Int) ≤ z := by omega
              have hdec := pop8_dec ⟨z, hz⟩ hz0
              have hand := u8_and_nat z (z - 1) hz (by omega)
              rw [show ((z - 1 : Nat) : Int) = (z : Int) - 1 by omega] at hand
              have hle : z &&& (z - 1) ≤ z - 1 := Nat.and_le_right
              have hdec2 : pop8 (z &&& (z - 1)) + 1 = pop8 z := hdec
              generalize z &&& (z - 1) = zz at *
              clear hdec
              go_wp2
              go_roundw
              case rel => exact ⟨zz, m + 1, by omega, by omega, by omega, rfl, by go_num, hs⟩
              case measure => simp [intOf]; omega
        · obtain rfl : q = 512 := by omega
          go_wp2
          go_roundw
          case rel => exact ⟨k + 1, by omega, by go_num, by rw [show k * 4096 + 8 * 512 = (k + 1) * 4096 by omega], hs.tail⟩
          case measure => simp [intOf]; omega
    · obtain rfl : k = n := by omega
      go_wp2
      go_ret2
      exact Ret.mk ⟨rfl, hs⟩
end
end Go.Proofs.Ytgbaigbplaoeaaa
