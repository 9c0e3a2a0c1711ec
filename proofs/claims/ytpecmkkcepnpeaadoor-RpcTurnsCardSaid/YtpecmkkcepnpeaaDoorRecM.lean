/- rpc: Mark; plain: what marked rows are taken to. No condition beside the sizes. -/
import Derived.Test.YtpecmkkcepnpeaaDoorRec
namespace Go.Proofs.YtpecmkkcepnpeaaDoor
set_option linter.unusedVariables false
set_option linter.unusedSimpArgs false
open Go.RowKit
def markB (b : List UInt8) : List UInt8 := hib 4 (2147483648 + b.length) ++ b
def pieceB (b : List UInt8) : List UInt8 := hib 4 b.length ++ b
theorem markB_len (b : List UInt8) : (markB b).length = 4 + b.length := by unfold markB; rw [List.length_append, hib_len]
theorem pieceB_len (b : List UInt8) : (pieceB b).length = 4 + b.length := by unfold pieceB; rw [List.length_append, hib_len]
theorem headV_hib (v : Nat) (r : List UInt8) (hv : v < 4294967296) : headV (hib 4 v ++ r) = v := by
  unfold headV
  rw [List.take_append_of_le_length (by rw [hib_len]; omega), List.take_of_length_le (by rw [hib_len]; omega), beN_hib]
  exact Nat.mod_eq_of_lt hv
theorem drop4_hib (v : Nat) (r : List UInt8) : (hib 4 v ++ r).drop 4 = r := by
  rw [List.drop_append_of_le_length (by rw [hib_len]; omega), List.drop_of_length_le (by rw [hib_len]; omega), List.nil_append]
theorem recQ_mark {x r row : List UInt8} {out : List (List UInt8)} (h : row.length + x.length ≤ 16384) : recQ (markB x ++ r) row out = recQ r [] (out ++ [row ++ x]) := by
  unfold markB
  rw [List.append_assoc]
  have hv := headV_hib (2147483648 + x.length) (x ++ r) (by omega)
  have hn : headN (hib 4 (2147483648 + x.length) ++ (x ++ r)) = x.length := by unfold headN; rw [hv]; omega
  have hd := drop4_hib (2147483648 + x.length) (x ++ r)
  rw [recQ_last (by rw [List.length_append, hib_len]; omega) (by rw [hn]; omega) (by rw [hn, List.length_append, hib_len, List.length_append]; omega) (by rw [hv]; omega), hn, ← List.drop_drop, hd]
  rw [List.drop_append_of_le_length (Nat.le_refl _), List.drop_length, List.nil_append, List.take_append_of_le_length (Nat.le_refl _), List.take_length]
theorem recQ_mark_long {x r row : List UInt8} {out : List (List UInt8)} (h : 16384 < row.length + x.length) (hx : x.length < 2147483648) : (recQ (markB x ++ r) row out).long = true := by
  unfold markB
  rw [List.append_assoc]
  have hv := headV_hib (2147483648 + x.length) (x ++ r) (by omega)
  have hn : headN (hib 4 (2147483648 + x.length) ++ (x ++ r)) = x.length := by unfold headN; rw [hv]; omega
  rw [recQ_long (by rw [List.length_append, hib_len]; omega) (by rw [hn]; omega)]
theorem recQ_piece {x r row : List UInt8} {out : List (List UInt8)} (h : row.length + x.length ≤ 16384) : recQ (pieceB x ++ r) row out = recQ r (row ++ x) out := by
  unfold pieceB
  rw [List.append_assoc]
  have hv := headV_hib x.length (x ++ r) (by omega)
  have hn : headN (hib 4 x.length ++ (x ++ r)) = x.length := by unfold headN; rw [hv]; omega
  have hd := drop4_hib x.length (x ++ r)
  rw [recQ_more (by rw [List.length_append, hib_len]; omega) (by rw [hn]; omega) (by rw [hn, List.length_append, hib_len, List.length_append]; omega) (by rw [hv]; omega), hn, ← List.drop_drop, hd]
  rw [List.drop_append_of_le_length (Nat.le_refl _), List.drop_length, List.nil_append, List.take_append_of_le_length (Nat.le_refl _), List.take_length]
theorem recQ_nil (row : List UInt8) (out : List (List UInt8)) : recQ [] row out = ⟨[], row, out, false⟩ := recQ_short (by simp)
/-- the first byte of a head -/
theorem hib4_cons (v : Nat) : ∃ t : List UInt8, hib 4 v = byteOf (v / 16777216) :: t := by
  refine ⟨[byteOf (v / 256 / 256), byteOf (v / 256), byteOf v], ?_⟩
  show [byteOf (v / 256 / 256 / 256), byteOf (v / 256 / 256), byteOf (v / 256), byteOf v] = _
  rw [show v / 256 / 256 / 256 = v / 16777216 by omega]
theorem mark_first {x : List UInt8} (hx : x.length < 2147483648) : ∃ (n : Nat) (t : List UInt8), n < 128 ∧ markB x = byteOf (128 + n) :: t ∧ pieceB x = byteOf n :: t := by
  refine ⟨x.length / 16777216, [byteOf (x.length / 256 / 256), byteOf (x.length / 256), byteOf x.length] ++ x, by omega, ?_, ?_⟩
  · unfold markB
    show [byteOf ((2147483648 + x.length) / 256 / 256 / 256), byteOf ((2147483648 + x.length) / 256 / 256), byteOf ((2147483648 + x.length) / 256), byteOf (2147483648 + x.length)] ++ x = _
    have e1 : (2147483648 + x.length) / 256 / 256 / 256 = 128 + x.length / 16777216 := by omega
    have e2 : byteOf ((2147483648 + x.length) / 256 / 256) = byteOf (x.length / 256 / 256) := by unfold byteOf; rw [show (2147483648 + x.length) / 256 / 256 % 256 = x.length / 256 / 256 % 256 by omega]
    have e3 : byteOf ((2147483648 + x.length) / 256) = byteOf (x.length / 256) := by unfold byteOf; rw [show (2147483648 + x.length) / 256 % 256 = x.length / 256 % 256 by omega]
    have e4 : byteOf (2147483648 + x.length) = byteOf x.length := by unfold byteOf; rw [show (2147483648 + x.length) % 256 = x.length % 256 by omega]
    rw [e1, e2, e3, e4]
    rfl
  · unfold pieceB
    show [byteOf (x.length / 256 / 256 / 256), byteOf (x.length / 256 / 256), byteOf (x.length / 256), byteOf x.length] ++ x = _
    rw [show x.length / 256 / 256 / 256 = x.length / 16777216 by omega]
    rfl
theorem u8_and127 (n : Nat) (hn : n < 128) : bits .and .u8 ((128 + n : Nat) : Int) 127 = (n : Int) := by
  have h := u8_and_nat (128 + n) 127 (by omega) (by omega)
  have e : ((127 : Nat) : Int) = 127 := rfl
  rw [e] at h
  rw [h]
  congr 1
  show (128 + n) &&& 2 ^ 7 - 1 = n
  rw [Nat.and_two_pow_sub_one_eq_mod]
  omega
section
variable {w : World} {L : List HP}
set_option maxHeartbeats 1000000 in
theorem mark_ok {v : Value} {b : List UInt8} (hb : b.length ≤ 100000000) (h : SatL w L) (g : Gives L (RdV v b)) :
    Calls Tryd.prog 18 #[v] w (Ret fun q w' => SatL w' (SlB 5 q (markB b) :: L)) := by
  obtain ⟨a, c, rfl, g1, g2⟩ := (g w h).valn
  have Gg := hid g
  have e1 := mark_or b.length (by omega)
  have hw1 : IntKind.u32.wrap (b.length : Int) = (b.length : Int) := u32_in b.length (by omega)
  obtain ⟨M, hM⟩ : ∃ M, M = 2147483648 + b.length := ⟨_, rfl⟩
  rw [← hM] at e1
  have hw2 : IntKind.u64.wrap (M : Int) = (M : Int) := u64_in M (by omega)
  have hal := h.alloc (.cells #[.int .u64 (M : Int)] 86)
  have kp := putbe_ok (v := .slice none 0 0) (bs := []) (k := 4) (us := [M]) (.inr (.inr (.inl rfl))) (fitsIn_32 (by intro x hx; simp at hx; omega)) (by simp) hal (fun w' h' => .inl ⟨rfl, rfl⟩) (fun w' h' => RdU.ofCl (n := 1) (c := 1) h' rfl rfl (by omega) (by omega))
  rw [show ((4 : Nat) : Int) = 4 from rfl, show [M].flatMap (hib 4) = hib 4 M by simp, List.nil_append] at kp
  have hbb : (4 + b.length) * 1 ≤ 140737488355328 := by omega
  have h63 : 4 + b.length ≤ maxLen := by unfold maxLen; omega
  have HM := hid hM
  clear h g hal hM
  go_enter Tryd.func18, Tryd.ntmps18
  go_wp2_with (first
    | (go_at_call 40; (with_reducible refine kp.mono ?_); rintro e w2 ⟨q, rfl, v', rfl, h2⟩; obtain ⟨va, vc, rfl, _, _⟩ := Sl.valn h2 (m := 4) (by simp [hib_len]); have hK := Sl.toK (n := 4) h2 (by simp [hib_len]); have hx := SrcOk.ofRdV (Gg.out w2 h2.tail.tail))
    | (at_builtin; refine wpList_append_sl rfl (.tmp 15) (.tmp 16) rfl elem_byte rfl hK rfl hx (bvs_one _) hbb h63 ?_; intro v3 w3 h3 _; have h4 := Sl.ofK h3; rw [← bvs_append] at h4))
  go_ret
  refine Ret.mk ?_
  have h5 := h4.swap.tail
  rw [HM.out] at h5
  exact h5
theorem RdV.conv {v : Value} {l : List UInt8} (h : RdV v l w) : (convert 27 9 v).run Tryd.prog w = .ok (.string ⟨l.toArray⟩) w := by
  rcases Nat.eq_zero_or_pos l.length with h0 | h0
  · obtain rfl : l = [] := List.eq_nil_of_length_eq_zero h0
    rcases h with ⟨rfl, _⟩ | ⟨A, c, rfl, h1, h2, h3⟩
    · exact RdB.conv (.inl ⟨rfl, rfl⟩)
    · rw [run_convert_bytes_string w 27 9 5 (some A) _ c Tryd.underlying27 Tryd.underlying5 (by kernel_rfl)]
      rfl
  · exact (h.b h0).conv
end
end Go.Proofs.YtpecmkkcepnpeaaDoor
