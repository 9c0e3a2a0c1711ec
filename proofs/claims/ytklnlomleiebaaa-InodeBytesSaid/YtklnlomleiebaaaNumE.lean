/- PutLe of the program. -/
import Derived.Test.YtklnlomleiebaaaNumC
namespace Go.Proofs.Ytklnlomleiebaaa
set_option linter.unusedVariables false
set_option linter.unusedSimpArgs false
open Go.RowKit

section
variable {w : World} {L : List HP}

def PutPost (T : Nat) (L : List HP) (bs : List UInt8) (v : Value) (w : World) : Prop := ∃ v', v = .tuple #[v', .int .i64 0] ∧ SatL w (SlB T v' bs :: L)

set_option maxHeartbeats 2000000 in
theorem putle_ok {v vu : Value} {bs : List UInt8} {us : List Nat} {k : Nat} (hk : sizeOk k) (hf : fitsIn k us) (hb : bs.length + us.length * 8 ≤ 1000000000) (h : SatL w L) (gb : Gives L (RdB v bs)) (gu : Gives L (RdU vu us)) :
    Calls Try.prog 32 #[v, .int .i64 k, vu] w (Ret (PutPost 5 L (bs ++ us.flatMap (lowb k)))) := by
  have hft := fits_yes hk hf (gu w h)
  have hkb : 1 ≤ k ∧ k ≤ 8 := by rcases hk with rfl | rfl | rfl | rfl <;> omega
  obtain ⟨a, c, rfl, g1, g2⟩ := (gu w h).valn
  have h0 := SlK_nil (T := 5) (k := 1) h
  have hx := SrcOk.ofRdB (gb w h)
  have hbb : (0 + bs.length) * 1 ≤ 140737488355328 := by omega
  have h63 : 0 + bs.length ≤ maxLen := by unfold maxLen; omega
  obtain ⟨va, vc, rfl, _, _⟩ := (gb w h).valn
  go_enter Try.func32, Try.ntmps32
  go_wp2_with (first
    | (go_at_call 44; (with_reducible refine hft.mono ?_); rintro e w' ⟨rfl, rfl⟩)
    | (at_builtin; refine wpList_append_sl rfl (.const (.slice none 0 0)) (.tmp 15) rfl elem_byte rfl h0 rfl hx (bvs_one bs) hbb h63 ?_; intro v' w2 h2 _))
  have h3 : SatL w2 (SlB 5 v' (bs ++ (us.take 0).flatMap (lowb k)) :: L) := by
    have := Sl.ofK h2
    simpa using this
  clear hft h0 hx hbb h63 h2
  go_loopw [8, 10, 19] (fun out x i wr => ∃ j : Nat, j ≤ us.length ∧ i = .int .i64 j ∧ SatL wr (SlB 5 out (bs ++ (us.take j).flatMap (lowb k)) :: L)) (fun _ _ i _ => us.length - (intOf i).toNat)
  case atStart => exact ⟨0, by omega, rfl, h3⟩
  case round =>
    obtain ⟨j, hj, rfl, hs⟩ := hrel
    by_cases hlt : j < us.length
    · obtain ⟨_, _, _, b, off, rfl, hcell⟩ := (gu wr hs.tail).at (by omega)
      have hc := hcell j hlt
      have hu := hf j hlt
      have hsn := hid (show (us.take (j + 1)).flatMap (lowb k) = (us.take j).flatMap (lowb k) ++ lowb k (us.getD j 0) by
        rw [List.take_add_one, List.getElem?_eq_getElem hlt, List.flatMap_append]
        simp [List.getD, hlt])
      have hlen : ((us.take j).flatMap (lowb k)).length ≤ us.length * 8 := by
        have e : ((us.take j).flatMap (lowb k)).length = (us.take j).length * k := by
          rw [List.length_flatMap]
          have : (us.take j).map (fun a => (lowb k a).length) = List.replicate (us.take j).length k := by
            apply List.ext_getElem
            · simp
            · intro i h1 h2; simp [lowb_len]
          rw [this, List.sum_replicate_nat]
        have e2 : (us.take j).length ≤ us.length := by simp; omega
        rw [e]
        exact Nat.le_trans (Nat.mul_le_mul_right _ e2) (Nat.mul_le_mul_left _ hkb.2)
      generalize (us.take j).flatMap (lowb k) = D at *
      generalize us.getD j 0 = u at *
      have hu8 : u < 18446744073709551616 := by
        have : 256 ^ k ≤ 256 ^ 8 := Nat.pow_le_pow_right (by omega) hkb.2
        have e : (256 : Nat) ^ 8 = 18446744073709551616 := by decide
        omega
      clear hcell hu hf
      go_wp2
      obtain ⟨wo, rfl⟩ : ∃ wo : World, wo = wr := ⟨_, rfl⟩
      go_loopw [8, 10, 24] (fun out x i wr => ∃ m : Nat, m ≤ k ∧ i = .int .i64 m ∧ x = .int .u64 (u / 256 ^ m : Nat) ∧ SatL wr (SlB 5 out (bs ++ (D ++ lowb m u)) :: L)) (fun _ _ i _ => k - (intOf i).toNat)
      case atStart => exact ⟨0, by omega, rfl, by simp, by simpa [lowb] using hs⟩
      case round =>
        obtain ⟨m, hm, rfl, rfl, hs1⟩ := hrel
        by_cases hmk : m < k
        · have b1 : ((bvs (bs ++ (D ++ lowb m u))).length + 1) * 1 ≤ 140737488355328 := by simp [lowb_len]; omega
          have b8 : 0 < 1 := by omega
          have hs2 := hid (lowb_snoc m u)
          have hs3 := hid (show u / 256 ^ (m + 1) = (u / 256 ^ m) / 256 by rw [Nat.pow_succ, Nat.div_div_eq_div_mul])
          have hy : u / 256 ^ m < 18446744073709551616 := Nat.lt_of_le_of_lt (Nat.div_le_self _ _) hu8
          generalize u / 256 ^ m = y at *
          go_wp2_with (at_builtin; refine wpList_push_sl rfl (.tmp 26) (.tmp 29) rfl elem_byte b8 rfl hs1 rfl rfl b1 ?_; intro v' w6 h6)
          go_roundw
          case rel =>
            refine ⟨m + 1, by omega, by go_num, by rw [hs3.out]; rfl, ?_⟩
            rw [hs2.out, ← List.append_assoc D, ← List.append_assoc bs]
            refine SlB.snoc ?_
            rw [bv_byteOf]
            exact h6
          case measure => simp [intOf]; omega
        · obtain rfl : m = k := by omega
          go_wp2
          go_roundw
          case rel => exact ⟨j + 1, by omega, by go_num, by rw [hsn.out]; exact hs1⟩
          case measure => simp [intOf]; omega
    · obtain rfl : j = us.length := by omega
      rw [List.take_length] at hs
      go_wp2
      go_ret2
      exact Ret.mk ⟨_, rfl, hs⟩
end
end Go.Proofs.Ytklnlomleiebaaa
