/- give of a view; TakeBlock, GiveBlock. -/
import Derived.Test.YtklnlomleiebaaaTake
namespace Go.Proofs.Ytklnlomleiebaaa
set_option linter.unusedVariables false
set_option linter.unusedSimpArgs false
open Go.RowKit

theorem mask_bit (s t : Nat) (hs : s < 8) : (255 - 2 ^ s).testBit t = (decide (t < 8) && !(t == s)) := by
  by_cases ht : t < 8
  · rcases (by omega : s = 0 ∨ s = 1 ∨ s = 2 ∨ s = 3 ∨ s = 4 ∨ s = 5 ∨ s = 6 ∨ s = 7) with rfl | rfl | rfl | rfl | rfl | rfl | rfl | rfl <;>
    rcases (by omega : t = 0 ∨ t = 1 ∨ t = 2 ∨ t = 3 ∨ t = 4 ∨ t = 5 ∨ t = 6 ∨ t = 7) with rfl | rfl | rfl | rfl | rfl | rfl | rfl | rfl <;> decide
  · have : (255 - 2 ^ s).testBit t = false := Nat.testBit_lt_two_pow (Nat.lt_of_lt_of_le (Nat.lt_of_le_of_lt (Nat.sub_le 255 (2 ^ s)) (show 255 < 2 ^ 8 by decide)) (Nat.pow_le_pow_right (by omega) (by omega)))
    simp [this, ht]
theorem bitByte_andNot (P : Nat → Bool) (i : Nat) : UInt8.ofNat ((bitByte P (i / 8)).toNat &&& (255 - 2 ^ (i % 8))) = bitByte (fun j => P j && !(j == i)) (i / 8) := by
  rw [bitByte_nat]
  unfold bitByte
  congr 1
  apply Nat.eq_of_testBit_eq
  intro t
  rw [Nat.testBit_and, bsum_bit, bsum_bit, mask_bit _ _ (Nat.mod_lt i (by omega))]
  have : (t == i % 8) = (8 * (i / 8) + t == i) ∨ ¬ t < 8 := by
    by_cases ht : t < 8
    · left; rw [Bool.eq_iff_iff]; simp; omega
    · exact .inr ht
  rcases this with h | h
  · rw [h]; cases decide (t < 8) <;> simp
  · simp [h]
theorem bitsN_unset {n : Nat} (P : Nat → Bool) {i : Nat} (hi : i < 8 * n) : (bitsN n P).set (i / 8) (UInt8.ofNat ((bitByte P (i / 8)).toNat &&& (255 - 2 ^ (i % 8)))) = bitsN n (fun j => P j && !(j == i)) := by
  refine bitsN_put P _ (by omega) _ (bitByte_andNot P i) fun j hj => ?_
  have : (j == i) = false := by
    simp; intro e; subst e; exact hj rfl
  simp [this]
theorem andNot_bit (x s : Nat) (hx : x < 256) (hs : s < 8) : bits .andNot .u8 (x : Int) ((2 : Int) ^ s % 256) = (((UInt8.ofNat (x &&& (255 - 2 ^ s))).toNat : Nat) : Int) := by
  obtain ⟨h1, h2⟩ := pow_small s hs
  rw [h1, u8_andNot_nat x (2 ^ s) hx h2]
  have : x &&& (255 - 2 ^ s) < 2 ^ 8 := Nat.and_lt_two_pow _ (by omega)
  rw [UInt8.toNat_ofNat', Nat.mod_eq_of_lt this]

section
variable {w : World} {L : List HP} {vb mb i tb dt : Nat} {rows : List (Option (List UInt8))} {puts : Puts}
theorem view_cells (h : SatL w (ViewR vb mb i tb dt rows puts :: L)) : w.cell? ⟨vb, 1, none⟩ = some (.int .i64 rows.length) ∧ w.cell? ⟨vb, 2, none⟩ = some (.int .i64 i) ∧ w.cell? ⟨vb, 5, none⟩ = some (.int .i64 68) ∧ w.cell? ⟨vb, 6, none⟩ = some (.int .i64 69) ∧ w.cell? ⟨vb, 7, none⟩ = some (.int .i64 tb) ∧ w.cell? ⟨vb, 8, none⟩ = some (.int .i64 dt) := by
  obtain ⟨m, h1⟩ := sat_ViewR.1 h
  exact ⟨h1.cell rfl, h1.cell rfl, h1.cell rfl, h1.cell rfl, h1.cell rfl, h1.cell rfl⟩

set_option maxRecDepth 100000 in
set_option maxHeartbeats 1000000 in
theorem takeBlock_ok {u : Nat} {U : Nat → Bool} (h : SatL w (ViewR vb mb i tb dt rows puts :: L)) (ht : 69 ≤ tb) (hfr : tb ≤ rows.length) (hr5 : Rows512 rows) (hp5 : Puts512 puts) (hn : rows.length ≤ 1000000)
    (hb : ∀ k, k < tb - 69 → viewAt rows puts (69 + k) = bitsN 512 (fun j => U (k * 4096 + j))) (hu : u < (tb - 69) * 4096) (hU : U u = false) (hmin : ∀ j, j < u → U j = true) :
    Calls Try.prog 33 #[.pointer (some ⟨vb, 0, none⟩)] w (Ret fun v w' => v = .tuple #[.int .i64 u, .nilIface] ∧ SatL w' (ViewR vb mb i tb dt rows (upo puts ((69 + u / 4096 : Nat) : Int) (bitsN 512 (fun j => U (u / 4096 * 4096 + j) || j == u % 4096))) :: L)) := by
  have htk := take_ok (fr := 69) (n := tb - 69) (sat_drew.2 h) (by omega) hr5 hp5 hn hb hu hU hmin
  obtain ⟨_, _, _, c6, c7, _⟩ := view_cells (sat_drew.2 h)
  have e1 : IntKind.i64.wrap ((tb : Int) - 69) = ((tb - 69 : Nat) : Int) := by rw [IntWalk.i64_in _ (by omega)]; omega
  have e3 : tb ≤ 1000000 := by omega
  rw [← e1, show ((69 : Nat) : Int) = 69 from rfl] at htk
  clear hb hu hU hmin hr5 hp5 hn hfr h e1
  go_enter Try.func33, Try.ntmps33
  go_wp2
  go_region_held3 (fun w' => w'.cell? ⟨vb, 6, none⟩ = some (.int .i64 69) ∧ w'.cell? ⟨vb, 7, none⟩ = some (.int .i64 tb))
    (first | exact ⟨c6, c7⟩ | exact ⟨m6, m7⟩ | go_keep)
    (first
      | (go_at_call 45; (with_reducible refine htk.mono ?_); rintro e w2 ⟨v, rfl, rfl, hs1⟩; obtain ⟨_, _, _, m6, m7, _⟩ := view_cells hs1))
  go_wp2
  go_ret2
  exact Ret.mk ⟨rfl, hs1⟩

end
end Go.Proofs.Ytklnlomleiebaaa
