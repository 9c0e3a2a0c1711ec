/- Be, PutBe of the program. No condition beside the sizes. -/
import Derived.Test.YtpecmkkcepnpeaaDoorNumE
namespace Go.Proofs.YtpecmkkcepnpeaaDoor
set_option linter.unusedVariables false
set_option linter.unusedSimpArgs false
open Go.RowKit

/-- the bytes of a number, the highest first -/
def hib (k v : Nat) : List UInt8 := (lowb k v).reverse
/-- the number that bytes are, the highest first -/
def beN (l : List UInt8) : Nat := leN l.reverse
theorem hib_len (k v : Nat) : (hib k v).length = k := by unfold hib; rw [List.length_reverse, lowb_len]
theorem beN_hib (k v : Nat) : beN (hib k v) = v % 256 ^ k := by unfold beN hib; rw [List.reverse_reverse, leN_lowb]
theorem beN_lt (l : List UInt8) : beN l < 256 ^ l.length := by have := leN_lt l.reverse; rwa [List.length_reverse] at this
theorem lowb_get : ∀ (k v m : Nat), m < k → (lowb k v)[m]? = some (byteOf (v / 256 ^ m))
  | 0, _, _, h => by omega
  | k + 1, v, 0, _ => by simp [lowb]
  | k + 1, v, m + 1, h => by
    have := lowb_get k (v / 256) m (by omega)
    rw [lowb, List.getElem?_cons_succ, this, Nat.div_div_eq_div_mul, Nat.pow_succ, Nat.mul_comm]
theorem hib_part {k v m : Nat} (h : m < k) : ((lowb k v).drop m).reverse = ((lowb k v).drop (m + 1)).reverse ++ [byteOf (v / 256 ^ m)] := by
  have h1 := lowb_get k v m h
  have h2 : m < (lowb k v).length := by rw [lowb_len]; exact h
  rw [List.getElem?_eq_getElem h2] at h1
  injection h1 with h1
  rw [List.drop_eq_getElem_cons h2, List.reverse_cons, h1]
theorem beN_snoc {r : List UInt8} {j : Nat} (hj : j < r.length) : leN (r.take (j + 1)).reverse = (r.getD j 0).toNat + 256 * leN (r.take j).reverse := by
  rw [take_byte hj, List.reverse_append]; rfl

section
variable {w : World} {L : List HP}
theorem be_in {v : Value} {l : List UInt8} {at_ k : Nat} (hk : sizeOk k) (hat : at_ + k ≤ l.length) (h : RdB v l w) :
    Calls Tryd.prog 38 #[v, .int .i64 at_, .int .i64 k] w fun e w' => e = .returned (.tuple #[.int .u64 ((beN ((l.drop at_).take k) : Nat) : Int), .int .i64 0]) ∧ w = w' := by
  have hkb : 1 ≤ k ∧ k ≤ 8 := by rcases hk with rfl | rfl | rfl | rfl <;> omega
  obtain ⟨a, c, rfl, g1, g2⟩ := h.valn
  obtain ⟨_, _, _, b, off, rfl, hcell⟩ := h.at (by omega)
  have hcut := cut_in (b := b) (off := off) (n := l.length) (c := c) hk hat g1 g2 w
  have hrl : ((l.drop at_).take k).length = k := by simp; omega
  have hcell' : ∀ i, i < k → w.cell? ⟨b, off + at_ + i, none⟩ = some (.int .u8 (((((l.drop at_).take k).getD i 0).toNat : Nat) : Int)) := by
    intro i hi
    rw [Nat.add_assoc, hcell (at_ + i) (by omega)]
    congr 4
    simp only [List.getD_eq_getElem?_getD, List.getElem?_drop, List.getElem?_take]
    rw [if_pos hi]
  unfold beN
  generalize (l.drop at_).take k = r at *
  clear hk hcell h hat
  go_enter Tryd.func38, Tryd.ntmps38
  go_wp2_with (go_at_call 70; (with_reducible refine hcut.mono ?_); rintro e w' ⟨rfl, rfl⟩)
  clear hcut
  go_loop [10, 22] (fun x i => ∃ j : Nat, j ≤ k ∧ i = .int .i64 j ∧ x = .int .u64 ((leN (r.take j).reverse : Nat) : Int)) (fun _ i => k - (intOf i).toNat)
  case atStart => exact ⟨0, by omega, rfl, rfl⟩
  case round =>
    obtain ⟨j, hj, rfl, rfl⟩ := hrel
    by_cases hlt : j < k
    · have hc := hcell' j hlt
      have e1 := beN_snoc (r := r) (j := j) (by omega)
      have e2 := leN_lt (r.take j).reverse
      have e3 : 256 ^ (r.take j).reverse.length ≤ 256 ^ 7 := Nat.pow_le_pow_right (by omega) (by simp; omega)
      have e4 : (256 : Nat) ^ 7 = 72057594037927936 := by decide
      have e5 : leN (r.take j).reverse < 72057594037927936 := by omega
      have e6 := u8_lt (r.getD j 0)
      generalize leN (r.take j).reverse = y at *
      generalize (r.getD j 0).toNat = z at *
      have E1 := hid e1
      clear e1 e2 e3 e4 hcell'
      go_wp2
      go_round
      case rel => exact ⟨j + 1, by omega, by go_num, by rw [or_u64 y z e5 e6, E1.out]⟩
      case measure => simp [intOf]; omega
    · obtain rfl : j = k := by omega
      rw [List.take_of_length_le (by omega)]
      go_wp2
      go_ret2
      exact ⟨rfl, rfl⟩
/-- beyond the end -/
theorem cut_no {a : Option Addr} {n c at_ k : Nat} (hk : sizeOk k) (hat : n < at_ + k) (hn : n ≤ 9223372036854775807) (ha : at_ ≤ 9223372036854775807) (w : World) :
    Calls Tryd.prog 70 #[.slice a n c, .int .i64 at_, .int .i64 k] w fun e w' => e = .returned (.tuple #[.slice none 0 0, .int .i64 11]) ∧ w = w' := by
  have hs := size_yes k hk w
  have hkb : 1 ≤ k ∧ k ≤ 8 := by rcases hk with rfl | rfl | rfl | rfl <;> omega
  have h1 : (n : Int) - (k : Int) < at_ := by omega
  clear hk
  go_enter Tryd.func70, Tryd.ntmps70
  go_wp2_with (go_at_call 84; (with_reducible refine hs.mono ?_); rintro e w' ⟨rfl, rfl⟩)
  go_ret2
  exact ⟨rfl, rfl⟩
theorem be_no {v : Value} {l : List UInt8} {at_ k : Nat} (hk : sizeOk k) (hat : l.length < at_ + k) (ha : at_ ≤ 9223372036854775807) (h : RdB v l w) :
    Calls Tryd.prog 38 #[v, .int .i64 at_, .int .i64 k] w fun e w' => e = .returned (.tuple #[.int .u64 0, .int .i64 11]) ∧ w = w' := by
  obtain ⟨a, c, rfl, g1, g2⟩ := h.valn
  have hcut := cut_no (a := a) (c := c) hk hat (by omega) ha w
  clear hk h hat
  go_enter Tryd.func38, Tryd.ntmps38
  go_wp2_with (go_at_call 70; (with_reducible refine hcut.mono ?_); rintro e w' ⟨rfl, rfl⟩)
  clear hcut
  refine wp_loop_rounds 1 ?_
  rw [rounds_succ]
  go_wp2
  go_ret2
  exact ⟨rfl, rfl⟩

set_option maxHeartbeats 2000000 in
theorem putbe_ok {v vu : Value} {bs : List UInt8} {us : List Nat} {k : Nat} (hk : sizeOk k) (hf : fitsIn k us) (hb : bs.length + us.length * 8 ≤ 1000000000) (h : SatL w L) (gb : Gives L (RdB v bs)) (gu : Gives L (RdU vu us)) :
    Calls Tryd.prog 40 #[v, .int .i64 k, vu] w (Ret (PutPost 5 L (bs ++ us.flatMap (hib k)))) := by
  have hft := fits_yes hk hf (gu w h)
  have hkb : 1 ≤ k ∧ k ≤ 8 := by rcases hk with rfl | rfl | rfl | rfl <;> omega
  obtain ⟨a, c, rfl, g1, g2⟩ := (gu w h).valn
  have h0 := SlK_nil (T := 5) (k := 1) h
  have hx := SrcOk.ofRdB (gb w h)
  have hbb : (0 + bs.length) * 1 ≤ 140737488355328 := by omega
  have h63 : 0 + bs.length ≤ maxLen := by unfold maxLen; omega
  obtain ⟨va, vc, rfl, _, _⟩ := (gb w h).valn
  go_enter Tryd.func40, Tryd.ntmps40
  go_wp2_with (first
    | (go_at_call 72; (with_reducible refine hft.mono ?_); rintro e w' ⟨rfl, rfl⟩)
    | (at_builtin; refine wpList_append_sl rfl (.const (.slice none 0 0)) (.tmp 16) rfl elem_byte rfl h0 rfl hx (bvs_one bs) hbb h63 ?_; intro v' w2 h2 _))
  have h3 : SatL w2 (SlB 5 v' (bs ++ (us.take 0).flatMap (hib k)) :: L) := by
    have := Sl.ofK h2
    simpa using this
  clear hft h0 hx hbb h63 h2
  go_loopw [8, 10, 20] (fun out x i wr => ∃ j : Nat, j ≤ us.length ∧ i = .int .i64 j ∧ SatL wr (SlB 5 out (bs ++ (us.take j).flatMap (hib k)) :: L)) (fun _ _ i _ => us.length - (intOf i).toNat)
  case atStart => exact ⟨0, by omega, rfl, h3⟩
  case round =>
    obtain ⟨j, hj, rfl, hs⟩ := hrel
    by_cases hlt : j < us.length
    · obtain ⟨_, _, _, b, off, rfl, hcell⟩ := (gu wr hs.tail).at (by omega)
      have hc := hcell j hlt
      have hu := hf j hlt
      have hsn := hid (show (us.take (j + 1)).flatMap (hib k) = (us.take j).flatMap (hib k) ++ hib k (us.getD j 0) by
        rw [List.take_add_one, List.getElem?_eq_getElem hlt, List.flatMap_append]
        simp [List.getD, hlt])
      have hlen : ((us.take j).flatMap (hib k)).length ≤ us.length * 8 := by
        have e : ((us.take j).flatMap (hib k)).length = (us.take j).length * k := by
          rw [List.length_flatMap]
          have : (us.take j).map (fun a => (hib k a).length) = List.replicate (us.take j).length k := by
            apply List.ext_getElem
            · simp
            · intro i h1 h2; simp [hib_len]
          rw [this, List.sum_replicate_nat]
        have e2 : (us.take j).length ≤ us.length := by simp; omega
        rw [e]
        exact Nat.le_trans (Nat.mul_le_mul_right _ e2) (Nat.mul_le_mul_left _ hkb.2)
      generalize (us.take j).flatMap (hib k) = D at *
      generalize us.getD j 0 = u at *
      have hu8 : u < 18446744073709551616 := by
        have : 256 ^ k ≤ 256 ^ 8 := Nat.pow_le_pow_right (by omega) hkb.2
        have e : (256 : Nat) ^ 8 = 18446744073709551616 := by decide
        omega
      clear hcell hu hf
      go_wp2
      obtain ⟨wo, rfl⟩ : ∃ wo : World, wo = wr := ⟨_, rfl⟩
      go_loopw [8, 11] (fun out i wr => ∃ m : Nat, m ≤ k ∧ i = .int .i64 ((m : Int) - 1) ∧ SatL wr (SlB 5 out (bs ++ (D ++ ((lowb k u).drop m).reverse)) :: L)) (fun _ i _ => (intOf i + 1).toNat)
      case atStart => exact ⟨k, by omega, rfl, by rw [List.drop_of_length_le (by rw [lowb_len]; omega)]; simpa using hs⟩
      case round =>
        obtain ⟨m1, hm, rfl, hs1⟩ := hrel
        by_cases hmk : 0 < m1
        · obtain ⟨m, rfl⟩ : ∃ m, m1 = m + 1 := ⟨m1 - 1, by omega⟩
          have b1 : ((bvs (bs ++ (D ++ ((lowb k u).drop (m + 1)).reverse))).length + 1) * 1 ≤ 140737488355328 := by simp [lowb_len]; omega
          have b8 : 0 < 1 := by omega
          have hs2 := hid (hib_part (k := k) (v := u) (m := m) (by omega))
          have e1 := shr_at u m (by omega)
          have hmz : ((m + 1 : Nat) : Int) - 1 = (m : Int) := by omega
          rw [hmz]
          clear hmz
          go_wp2_with (at_builtin; refine wpList_push_sl rfl (.tmp 30) (.tmp 36) rfl elem_byte b8 rfl hs1 rfl rfl b1 ?_; intro v' w6 h6)
          go_roundw
          case rel =>
            rw [low_byte] at h6
            refine ⟨m, by omega, by go_num, ?_⟩
            rw [hs2.out, ← List.append_assoc D, ← List.append_assoc bs]
            exact SlB.snoc h6
          case measure => simp [intOf]
        · obtain rfl : m1 = 0 := by omega
          have hz : (((0 : Nat) : Int) - 1) = -1 := by omega
          rw [hz]
          go_wp2
          go_roundw
          case rel => exact ⟨j + 1, by omega, by go_num, by rw [hsn.out]; exact hs1⟩
          case measure => simp [intOf]; omega
    · obtain rfl : j = us.length := by omega
      rw [List.take_length] at hs
      go_wp2
      go_ret2
      exact Ret.mk ⟨_, rfl, hs⟩
end
end Go.Proofs.YtpecmkkcepnpeaaDoor
