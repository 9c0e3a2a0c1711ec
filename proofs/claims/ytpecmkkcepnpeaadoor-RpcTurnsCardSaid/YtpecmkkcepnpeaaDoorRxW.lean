/- the document's Writer: U32, Fixed, Bytes; row. No condition beside the sizes. -/
import Derived.Test.YtpecmkkcepnpeaaDoorRxH
import Derived.Test.YtpecmkkcepnpeaaDoorRxB
namespace Go.Proofs.YtpecmkkcepnpeaaDoor
set_option linter.unusedVariables false
set_option linter.unusedSimpArgs false
open Go.RowKit
def WrQ (wb : Nat) (bs : List UInt8) : HP := ex fun v => sep [cl wb 119 #[v], SlB 5 v bs]
section
variable {w : World} {L : List HP} {wb : Nat} {bs : List UInt8}
theorem sat_WrQ : SatL w (WrQ wb bs :: L) ↔ ∃ v, SatL w (cl wb 119 #[v] :: SlB 5 v bs :: L) := by
  simp only [WrQ, sat_ex, sat_sep, List.cons_append, List.nil_append]
theorem refwu32_ok {x : Nat} (hx : x < 4294967296) (hb : bs.length ≤ 100000000) (h : SatL w (WrQ wb bs :: L)) :
    Calls Tryd.prog 56 #[.pointer (some ⟨wb, 0, none⟩), .int .u32 (x : Int)] w (Ret fun v w' => SatL w' (WrQ wb (bs ++ hib 4 x) :: L)) := by
  obtain ⟨v, h0⟩ := sat_WrQ.1 h
  have c0 := SatL.cell (h0 : SatL w (cl _ _ _ :: _)) (i := 0) (v := v) rfl
  have kh := high_ok (k := 4) (x := x) (by omega) (by omega) (by omega) h0.swap
  rw [show ((4 : Nat) : Int) = 4 from rfl] at kh
  have hwx : IntKind.u64.wrap (x : Int) = (x : Int) := u64_in _ (by omega)
  clear h h0
  go_enter Tryd.func56, Tryd.ntmps56
  go_wp2_with (go_at_call 81; (with_reducible refine kh.mono ?_); rintro e w1 ⟨q, rfl, h1⟩; have h2 := h1.swap; have f0 := SatL.free (h2 : SatL w1 (cl _ _ _ :: _)) 0; have d0 := SatL.cell (h2 : SatL w1 (cl _ _ _ :: _)) (i := 0) (v := v) rfl; obtain ⟨m, hm⟩ : ∃ m, (bvs (bs ++ hib 4 x)).length = m := ⟨_, rfl⟩; obtain ⟨qa, qc, rfl, _, _⟩ := Sl.valn h1 (m := m) hm; clear hm)
  go_end0
  exact Ret.mk (sat_WrQ.2 ⟨_, SatL.set (h2 : SatL w1 (cl _ _ _ :: _)) (i := 0) _⟩)
set_option maxHeartbeats 1000000 in
theorem refwfixed_ok {vu : Value} {xs : List UInt8} (hb : bs.length + xs.length ≤ 100000000) (h : SatL w (WrQ wb bs :: L)) (gu : Gives L (RdV vu xs)) :
    Calls Tryd.prog 80 #[.pointer (some ⟨wb, 0, none⟩), vu] w (Ret fun v w' => SatL w' (WrQ wb (bs ++ xs ++ List.replicate (pad4 xs.length) 0) :: L)) := by
  obtain ⟨v, h0⟩ := sat_WrQ.1 h
  have hv := gu w h.tail
  have hx := SrcOk.ofRdV hv
  obtain ⟨a, c, rfl, g1, g2⟩ := hv.valn
  have c0 := SatL.cell (h0 : SatL w (cl _ _ _ :: _)) (i := 0) (v := v) rfl
  have hK := Sl.toK (n := bs.length) (SatL.swap h0) (by simp)
  have hbb : (bs.length + xs.length) * 1 ≤ 140737488355328 := by omega
  have h63 : bs.length + xs.length ≤ maxLen := by unfold maxLen; omega
  have hp3 := pad4_le xs.length
  obtain ⟨n, hn⟩ : ∃ n, xs.length = n := ⟨_, rfl⟩
  obtain ⟨m4, hm4⟩ : ∃ m4, m4 = n % 4 := ⟨_, rfl⟩
  obtain ⟨k4, hk4⟩ : ∃ k4, k4 = 4 - m4 := ⟨_, rfl⟩
  have e1 : Int.tmod (n : Int) 4 = (m4 : Int) := by rw [Int.tmod_eq_emod_of_nonneg (by omega)]; omega
  have e2 : IntKind.i64.wrap (4 - (m4 : Int)) = (k4 : Int) := by rw [IntWalk.i64_in _ (by omega)]; omega
  have e2b : 4 - (m4 : Int) = (k4 : Int) := by omega
  have e3 : Int.tmod (k4 : Int) 4 = (pad4 n : Int) := by rw [Int.tmod_eq_emod_of_nonneg (by omega)]; unfold pad4; omega
  rw [hn] at hx hbb h63 hp3 g1 hb ⊢
  have Hn := hid hn
  generalize hpdd : pad4 n = d at *
  have Hm4 := hid hm4
  have Hk4 := hid hk4
  clear hm4 hk4
  clear hn h h0 hv gu hpdd
  go_enter Tryd.func80, Tryd.ntmps80
  go_upto_region 1 with (first
    | (at_builtin; refine wpList_append_sl rfl (.tmp 8) (.tmp 9) rfl elem_byte rfl hK rfl hx (bvs_one xs) hbb h63 ?_; intro v' w2 h2 _; have hz := Sl.ofK h2; rw [← bvs_append] at hz; obtain ⟨m, hm⟩ : ∃ m, (bvs (bs ++ xs)).length = m := ⟨_, rfl⟩; obtain ⟨qa, qc, rfl, _, _⟩ := Sl.valn hz (m := m) hm; clear hm; have h4 := hz.swap; have f0 := SatL.free (h4 : SatL w2 (cl _ _ _ :: _)) 0; have d0 := SatL.cell (h4 : SatL w2 (cl _ _ _ :: _)) (i := 0) (v := v) rfl; have h5 := SatL.set (h4 : SatL w2 (cl _ _ _ :: _)) (i := 0) (.slice qa m qc); have H5 := hid h5; clear hz h4 h5 h2))
  have h6 := H5.out
  generalize w2.setCell ⟨wb, 0, none⟩ (.slice qa m qc) = w3 at h6 ⊢
  have kn := noughts_ok (n := (d : Int)) (by omega) (by rw [List.length_append, Hn.out]; omega) h6.swap
  rw [Int.toNat_natCast] at kn
  have e0 := SatL.cell (h6 : SatL w3 (cl _ _ _ :: _)) (i := 0) (v := .slice qa m qc) rfl
  clear h6 H5 c0 hK hx d0 f0
  go_wp2_with (first
    | (go_at_call 85; (with_reducible refine kn.mono ?_); rintro e w1 ⟨q, rfl, h1⟩; have h2 := h1.swap; have f0 := SatL.free (h2 : SatL w1 (cl _ _ _ :: _)) 0; have d0 := SatL.cell (h2 : SatL w1 (cl _ _ _ :: _)) (i := 0) (v := .slice qa m qc) rfl; obtain ⟨m2, hm2⟩ : ∃ m2, (bvs (bs ++ xs ++ List.replicate d 0)).length = m2 := ⟨_, rfl⟩; obtain ⟨ra, rc, rfl, _, _⟩ := Sl.valn h1 (m := m2) hm2; clear hm2))
  go_end0
  exact Ret.mk (sat_WrQ.2 ⟨_, SatL.set (h2 : SatL w1 (cl _ _ _ :: _)) (i := 0) _⟩)
theorem refwbytes_ok {vu : Value} {xs : List UInt8} (hb : bs.length + xs.length ≤ 10000000) (h : SatL w (WrQ wb bs :: L)) (gu : Gives L (RdV vu xs)) :
    Calls Tryd.prog 55 #[.pointer (some ⟨wb, 0, none⟩), vu] w (Ret fun v w' => SatL w' (WrQ wb (bs ++ hib 4 xs.length ++ xs ++ List.replicate (pad4 xs.length) 0) :: L)) := by
  obtain ⟨a, c, rfl, g1, g2⟩ := (gu w h.tail).valn
  have ku := refwu32_ok (x := xs.length) (by omega) (by omega) h
  have hwx : IntKind.u32.wrap (xs.length : Int) = (xs.length : Int) := u32_in _ (by omega)
  have hl : (bs ++ hib 4 xs.length).length = bs.length + 4 := by rw [List.length_append, hib_len]
  have Gu := hid gu
  clear h gu
  go_enter Tryd.func55, Tryd.ntmps55
  go_wp2_with (first
    | (go_at_call 56; (with_reducible refine ku.mono ?_); rintro e w1 ⟨q, rfl, h1⟩; have kf := refwfixed_ok (by omega) h1 Gu.out)
    | (go_at_call 80; (with_reducible refine kf.mono ?_); rintro e w2 ⟨q, rfl, h2⟩))
  go_end0
  exact Ret.mk h2
set_option maxHeartbeats 1000000 in
theorem row_ok {vu : Value} {us : List Nat} (hu : ∀ u ∈ us, u < 4294967296) (hb : us.length ≤ 1000000) (h : SatL w L) (gu : Gives L (RdW vu us)) :
    Calls Tryd.prog 54 #[vu] w (Ret fun v w' => SatL w' (SlB 5 v (be4 us) :: L)) := by
  obtain ⟨a, c, rfl, g1, g2⟩ := (gu w h).valn
  have Gu := hid gu
  have Hu := hid hu
  have h1 : SatL (w.alloc (.cells #[.slice none 0 0] 119)) (WrQ w.heap.size (be4 []) :: L) := sat_WrQ.2 ⟨.slice none 0 0, (Sl_nil (T := 5) (h.alloc (.cells #[.slice none 0 0] 119))).swap⟩
  clear gu hu
  go_enter Tryd.func54, Tryd.ntmps54
  go_wp2
  go_loopw [4] (fun i wr => ∃ j : Nat, j ≤ us.length ∧ i = .int .i64 j ∧ SatL wr (WrQ w.heap.size (be4 (us.take j)) :: L)) (fun i _ => us.length - (intOf i).toNat)
  case atStart => exact ⟨0, by omega, rfl, by simpa using h1⟩
  case round =>
    clear h h1
    obtain ⟨j, hj, rfl, hs⟩ := hrel
    by_cases hlt : j < us.length
    · obtain ⟨_, _, _, b, off, rfl, hcell⟩ := (Gu.out wr hs.tail).at (by omega)
      have hc := hcell j hlt
      have hul : us.getD j 0 < 4294967296 := by
        simp only [List.getD, List.getElem?_eq_getElem hlt, Option.getD_some]
        exact Hu.out _ (List.getElem_mem hlt)
      have hsn := hid (show be4 (us.take (j + 1)) = be4 (us.take j) ++ hib 4 (us.getD j 0) by
        unfold be4
        rw [List.take_add_one, List.getElem?_eq_getElem hlt, List.flatMap_append]
        simp [List.getD, hlt])
      have hlen : (be4 (us.take j)).length ≤ us.length * 4 := by rw [be4_len]; have : (us.take j).length ≤ us.length := by simp; omega
                                                                 omega
      have ku := refwu32_ok hul (by omega) hs
      generalize be4 (us.take j) = D at *
      generalize us.getD j 0 = u at *
      clear hcell hs hlen
      go_wp2_with (go_at_call 56; (with_reducible refine ku.mono ?_); rintro e w1 ⟨q, rfl, h1⟩)
      go_roundw
      case rel => exact ⟨j + 1, by omega, by go_num, by rw [hsn.out]; exact h1⟩
      case measure => simp [intOf]; omega
    · obtain rfl : j = us.length := by omega
      rw [List.take_length] at hs
      obtain ⟨v, h2⟩ := sat_WrQ.1 hs
      have c0 := SatL.cell (h2 : SatL wr (cl _ _ _ :: _)) (i := 0) (v := v) rfl
      clear hs
      go_wp2
      go_ret
      exact Ret.mk h2.tail
end
end Go.Proofs.YtpecmkkcepnpeaaDoor
