/- RpcRecords: the law's walk. Condition: errors.errorType's cell holds the type's handle. -/
import Derived.Test.YtpecmkkcepnpeaaDoorRxT
import Derived.Test.YtpecmkkcepnpeaaDoorLawStr
namespace Go.Proofs.YtpecmkkcepnpeaaDoor
set_option linter.unusedVariables false
set_option linter.unusedSimpArgs false
open Go.RowKit
section
variable {w : World} {L : List HP}
theorem recF {rs ws : List RwB} {gb go wb wo wn gc wc k : Nat} (h1 : rs.length = wn) (h2 : ws.length = wn) (hd : rs.map (·.d) = ws.map (·.d)) (hk : k < wn)
    (h : SatL w (Sl 27 (.slice (some ⟨gb, go, none⟩) wn gc) (rs.map (·.v)) :: big (fun r : RwB => SlB 5 r.v r.d) rs :: Sl 27 (.slice (some ⟨wb, wo, none⟩) wn wc) (ws.map (·.v)) :: big (fun r : RwB => SlB 5 r.v r.d) ws :: L)) :
    w.cell? ⟨gb, go + k, none⟩ = some (rs[k]'(by omega)).v ∧ w.cell? ⟨wb, wo + k, none⟩ = some (ws[k]'(by omega)).v ∧ (convert 27 9 (rs[k]'(by omega)).v).run Tryd.prog w = .ok (.string ⟨(ws[k]'(by omega)).d.toArray⟩) w ∧ (convert 27 9 (ws[k]'(by omega)).v).run Tryd.prog w = .ok (.string ⟨(ws[k]'(by omega)).d.toArray⟩) w ∧ (∃ a n c, (rs[k]'(by omega)).v = .slice a n c) ∧ ∃ a n c, (ws[k]'(by omega)).v = .slice a n c := by
  have hk1 : k < rs.length := by omega
  have hk2 : k < ws.length := by omega
  have e : rs[k].d = ws[k].d := by
    have := congrArg (fun l => l[k]?) hd
    simpa [List.getElem?_map, List.getElem?_eq_getElem hk1, List.getElem?_eq_getElem hk2] using this
  obtain ⟨L', hb⟩ := big_at hk1 (h.pull 1)
  obtain ⟨L2, hb2⟩ := big_at hk2 (h.pull 3)
  refine ⟨Sl.cell h (by rw [List.getElem?_map, List.getElem?_eq_getElem hk1]; rfl), Sl.cell (h.pull 2) (by rw [List.getElem?_map, List.getElem?_eq_getElem hk2]; rfl), ?_, RdB.conv (SlB.rd hb2), ?_, ?_⟩
  · rw [← e]; exact RdB.conv (SlB.rd hb)
  · obtain ⟨a, c, e2, _, _⟩ := (SlB.rd hb).valn; exact ⟨_, _, _, e2⟩
  · obtain ⟨a, c, e2, _, _⟩ := (SlB.rd hb2).valn; exact ⟨_, _, _, e2⟩
theorem recSet (l : List UInt8) (j : Nat) : (bvs l).set j (.int .u8 238) = bvs (l.set j 238) := by
  unfold bvs
  rw [List.map_set]
  rfl
theorem RecS.add_bounds {s : RecS} {b : List UInt8} (hr : s.row.length ≤ 16384) : (s.add b).2.2.rest.length ≤ s.rest.length + b.length ∧ (s.add b).2.2.row.length ≤ 16384 := by
  unfold RecS.add
  obtain ⟨h1, h2⟩ := recQ_row ((s.rest ++ b).length + 1) (s.rest ++ b) s.row [] hr
  have e : recQ (s.rest ++ b) s.row [] = recGo ((s.rest ++ b).length + 1) (s.rest ++ b) s.row [] := rfl
  rw [← e, List.length_append] at h2
  rw [← e] at h1
  split
  · exact ⟨Nat.zero_le _, Nat.zero_le _⟩
  · split
    · exact ⟨Nat.zero_le _, Nat.zero_le _⟩
    · exact ⟨h2, h1⟩
set_option maxRecDepth 100000 in
set_option maxHeartbeats 8000000 in
theorem records_walk {la : Option Addr} {ln lc : Nat} {V : Nat → Value} {D : Nat → List UInt8} (w : World) (hl : InRows la ln V D w) (hH : HndW w) :
    Calls Tryd.prog 4 #[.slice la ln lc] w (Ret fun q w' => q = .bool true ∧ SatL w' [old w]) := by
  have hlnl := hl.1
  have kK := known_ok (sat_old w) hH.old
  have HL := hid hl.old
  clear hl hH
  go_enter Tryd.func4, Tryd.ntmps4
  go_upto_region 7 with (first
    | (go_at_call 12; (with_reducible refine kK.mono ?_); rintro ev w1 ⟨q, rfl, rfl, hs⟩; have kN := newrecords_ok hs; clear hs kK)
    | (go_at_call 15; (with_reducible refine kN.mono ?_); rintro ev w2 ⟨q, rfl, rb, rfl, h2⟩; clear kN))
  have h3 := h2.alloc (.cells #[.slice none 0 0, .int .i64 0, .bool false, .bool false, .slice none 0 0, .bool false] 41)
  generalize w2.alloc (.cells #[.slice none 0 0, .int .i64 0, .bool false, .bool false, .slice none 0 0, .bool false] 41) = w3 at h3 ⊢
  generalize w2.heap.size = xb at h3 ⊢
  have h4 : SatL w3 (RecR rb RecS.new :: RefRec xb RecS.new :: [old w]) := (refrec_new (hv := .slice none 0 0) (bv := .slice none 0 0) (c := 0) h3).swap
  clear h2 h3
  go_wp2_with fail
  go_loopw [5] (fun i wr => ∃ (k : Nat) (s : RecS), k ≤ 60 ∧ i = .int .i64 (k : Int) ∧ s.rest.length ≤ k * 32768 ∧ s.row.length ≤ 16384 ∧ SatL wr (RecR rb s :: RefRec xb s :: [old w])) (fun i _ => 60 - (intOf i).toNat)
  case atStart => exact ⟨0, RecS.new, by omega, rfl, by simp [RecS.new], by simp [RecS.new], h4⟩
  case round =>
    clear h4
    obtain ⟨k, s, hk, rfl, hrest, hrow, hs⟩ := hrel
    by_cases hgo : k < ln ∧ k < 60
    · obtain ⟨j1, j2⟩ := hgo
      obtain ⟨lb, lo, rfl, hlc⟩ := (HL.out wr hs.tail.tail).2.1 (by omega)
      have hrv := (HL.out wr hs.tail.tail).2.2 k j1
      have cV := hlc k j1
      obtain ⟨dn, hdn⟩ : ∃ dn, (D k).length = dn := ⟨_, rfl⟩
      obtain ⟨va, vc, hv, _, _⟩ := hrv.valn
      rw [hdn] at hv
      have HV := hid (fun (w' : World) (h : SatL w' [old w]) => ((HL.out w' h).2.2 k j1))
      have HC := hid (fun (w' : World) (h : SatL w' [old w]) => (by
        obtain ⟨b2, o2, e, hc2⟩ := (HL.out w' h).2.1 (by omega)
        cases e
        exact hc2 k j1 : w'.cell? ⟨lb, lo + k, none⟩ = some (V k)))
      rw [hv] at cV hrv HV HC
      have j1z : (k : Int) < ln := by omega
      have j2z : (k : Int) < 60 := by omega
      have Hdn := hid hdn
      clear hlc hdn hv
      by_cases hbig : 32768 < dn
      · have t1 : (32768 : Int) < dn := by omega
        have Hold := hid hs.tail.tail
        clear hs hbig hrv
        go_wp2_with fail
        go_ret
        exact Ret.mk ⟨rfl, Hold.out⟩
      · have t1 : ¬ (32768 : Int) < dn := by omega
        have hd9 : dn ≤ 1000000000 := by omega
        have Hs := hid hs
        have cV2 : (wr.alloc (.cells #[] 5)).cell? ⟨lb, lo + k, none⟩ = some (.slice va dn vc) := HC.out _ (hs.alloc (.cells #[] 5)).tail.tail.tail
        have hb1 := hid (show s.rest.length + (D k).length ≤ 100000000 by rw [Hdn.out]; omega)
        have hb2 := hid (show (D k).length ≤ 100000000 by rw [Hdn.out]; omega)
        have hbd := s.add_bounds (b := D k) hrow
        rw [Hdn.out] at hbd
        obtain ⟨q, hq⟩ : ∃ q, s.add (D k) = q := ⟨_, rfl⟩
        rw [hq] at hbd
        obtain ⟨outs, er, s'⟩ := q
        dsimp only at hbd
        obtain ⟨on, hon⟩ : ∃ on, outs.length = on := ⟨_, rfl⟩
        have Hq := hid hq
        have Hon := hid hon
        have Hrow := hid hrow
        have Hbd := hid (show s'.rest.length ≤ (k + 1) * 32768 ∧ s'.row.length ≤ 16384 by omega)
        clear hs hbig hq hon hbd hrow hrest
        go_upto_region 13 with (at_builtin; refine wpList_newcopy (w := wr) (nb := wr.heap.size) rfl rfl (.tmp 36) (.tmp 40) rfl rfl rfl Hs.out Hdn.out hrv hd9 ?_; intro a2 c2 w4 _ h5)
        have kA := add_ok hb1.out Hrow.out (h5.pull 1) (fun w' h' => RdB.v (SlB.rd h'))
        rw [Hq.out] at kA
        clear h5 hrv cV cV2
        go_upto_region 14 with (first
          | (go_at_call 16; (with_reducible refine kA.mono ?_); rintro ev w5 ⟨q, rfl, ov, rfl, h6⟩))
        have h6' : SatL w5 (RowsL ov outs :: RecR rb s' :: SlB 5 (.slice a2 dn c2) (D k) :: RefRec xb s :: [old w]) := h6
        have kB := refadd_ok hb2.out Hrow.out (h6'.pull 3) (fun w' h' => HV.out w' h'.tail.tail.tail)
        rw [Hq.out] at kB
        have cV := HC.out w5 h6'.tail.tail.tail.tail
        obtain ⟨rs, hrs, h7⟩ := sat_RowsL.1 h6'
        have hrl : rs.length = on := by rw [← Hon.out, ← hrs, List.length_map]
        obtain ⟨oa, oc, rfl, _, _⟩ := Sl.valn (sat_RowsQ.1 h7) (m := on) (by rw [List.length_map]; exact hrl)
        clear h6 h6' h7 hrs hrl kA rs
        go_upto_region 15 with (first
          | (go_at_call 17; (with_reducible refine kB.mono ?_); rintro ev w6 ⟨q, rfl, ov2, rfl, h8⟩))
        have h9 : SatL w6 (RowsL ov2 outs :: RefRec xb s' :: RowsL (.slice oa on oc) outs :: RecR rb s' :: SlB 5 (.slice a2 dn c2) (D k) :: [old w]) := h8
        obtain ⟨ws, hws, h10⟩ := sat_RowsL.1 h9
        have hwl : ws.length = on := by rw [← Hon.out, ← hws, List.length_map]
        obtain ⟨pa, pc, rfl, _, hpc⟩ := Sl.valn (sat_RowsQ.1 h10) (m := on) (by rw [List.length_map]; exact hwl)
        have h11 := sat_RowsQ.1 h10
        obtain ⟨rs, hrs, h12⟩ := sat_RowsL.1 (h11.pull 3)
        have hrl : rs.length = on := by rw [← Hon.out, ← hrs, List.length_map]
        have h13 := sat_RowsQ.1 h12
        have honl : on ≤ 9223372036854775807 := by
          obtain ⟨_, _, e, h1, h2⟩ := Sl.valn h13 (m := on) (by rw [List.length_map]; exact hrl)
          cases e
          omega
        have Hdd := hid (show rs.map (·.d) = ws.map (·.d) by rw [hrs, hws])
        have Hrl := hid hrl
        have Hwl := hid hwl
        clear h8 h9 h10 h11 h12 hws hwl hrs hrl kB cV
        go_upto_block 2 with fail
        have h14 : SatL w6 (SlB 5 (.slice a2 dn c2) (D k) :: Sl 27 (.slice oa on oc) (rs.map (·.v)) :: big (fun r : RwB => SlB 5 r.v r.d) rs :: Sl 27 (.slice pa on pc) (ws.map (·.v)) :: big (fun r : RwB => SlB 5 r.v r.d) ws :: RefRec xb s' :: RecR rb s' :: [old w]) := h13.bring [6, 0, 1, 2, 3, 4, 5]
        clear h13
        go_cut [11] from 57 to 65 (fun _ wx => SatL wx (Sl 27 (.slice oa on oc) (rs.map (·.v)) :: big (fun r : RwB => SlB 5 r.v r.d) rs :: Sl 27 (.slice pa on pc) (ws.map (·.v)) :: big (fun r : RwB => SlB 5 r.v r.d) ws :: RefRec xb s' :: RecR rb s' :: [old w]))
        case first =>
          go_wp2_with fail
          go_loopw [11] (fun i wr => ∃ (j : Nat) (bs : List UInt8), j ≤ dn ∧ i = .int .i64 (j : Int) ∧ bs.length = dn ∧ SatL wr (SlB 5 (.slice a2 dn c2) bs :: Sl 27 (.slice oa on oc) (rs.map (·.v)) :: big (fun r : RwB => SlB 5 r.v r.d) rs :: Sl 27 (.slice pa on pc) (ws.map (·.v)) :: big (fun r : RwB => SlB 5 r.v r.d) ws :: RefRec xb s' :: RecR rb s' :: [old w])) (fun i _ => dn - (intOf i).toNat)
          case atStart => exact ⟨0, D k, by omega, rfl, Hdn.out, h14⟩
          case round =>
            clear h14
            obtain ⟨j, bs, hj, rfl, hbl, hs2⟩ := hrel
            have Hbl := hid hbl
            clear hbl
            by_cases hlt : j < dn
            · obtain ⟨ab, ao, rfl⟩ := Sl.addr hs2 (by omega)
              have f1 := Sl.free hs2 (ao + j)
              have cj := SlB.cell hs2 (i := j) (by rw [Hbl.out]; exact hlt)
              have hset := Sl.set hs2 (i := j) (by rw [bvs_len, Hbl.out]; exact hlt) (.int .u8 238)
              have h238 := recSet bs j
              have Hset := hid hset
              have H238 := hid h238
              have hlz : (j : Int) < dn := by omega
              clear hs2 hset h238
              go_wp2_with fail
              go_roundw
              case rel =>
                refine ⟨j + 1, bs.set j 238, by omega, by go_num, by rw [List.length_set]; exact Hbl.out, ?_⟩
                have := Hset.out
                rw [H238.out] at this
                exact this
              case measure => simp [intOf]; omega
            · have hjd : j = dn := by omega
              subst hjd
              have H2 := hid hs2.tail
              clear hs2
              go_wp2_with fail
              go_meet
              exact H2.out
        case rest =>
          clear h14
          have Hcut := hid hcut
          have e1 : (er != er) = false := by simp
          clear hcut
          go_upto_block 4 with fail
          go_wp2_with fail
          go_loopw [12] (fun i wr => ∃ j : Nat, j ≤ on ∧ i = .int .i64 (j : Int) ∧ SatL wr (Sl 27 (.slice oa on oc) (rs.map (·.v)) :: big (fun r : RwB => SlB 5 r.v r.d) rs :: Sl 27 (.slice pa on pc) (ws.map (·.v)) :: big (fun r : RwB => SlB 5 r.v r.d) ws :: RefRec xb s' :: RecR rb s' :: [old w])) (fun i _ => on - (intOf i).toNat)
          case atStart => exact ⟨0, by omega, rfl, Hcut.out⟩
          case round =>
            clear Hcut
            obtain ⟨j, hj, rfl, hwr⟩ := hrel
            by_cases hlt : j < on
            · obtain ⟨gb, go, rfl⟩ := Sl.addr hwr (by omega)
              obtain ⟨wb, wo, rfl⟩ := Sl.addr (hwr.pull 2) (by omega)
              have hall := fun (w' : World) h' => recF (w := w') (gb := gb) (go := go) (gc := oc) (wb := wb) (wo := wo) (wc := pc) (L := RefRec xb s' :: RecR rb s' :: [old w]) Hrl.out Hwl.out Hdd.out hlt h'
              obtain ⟨y1, y2, y3, y4, ⟨xa, xn, xc, ex⟩, ⟨ya, yn, yc, ey⟩⟩ := hall wr hwr
              have v3 := fun m => (hall (wr.drewN m) (sat_drewM.2 hwr)).2.2.1
              have v4 := fun m => (hall (wr.drewN m) (sat_drewM.2 hwr)).2.2.2.1
              rw [ex] at y1 y3
              rw [ey] at y2 y4
              simp only [ex] at v3
              simp only [ey] at v4
              generalize (⟨(ws[j]'(by have := Hwl.out; omega)).d.toArray⟩ : ByteArray) = SB at *
              have hlt3 : (j : Int) < on := by omega
              have hw1 : IntKind.i64.wrap ((j : Int) + 1) = ((j + 1 : Nat) : Int) := by rw [IntWalk.i64_in _ (by omega)]; omega
              have Hwr := hid hwr
              clear hwr hall ex ey
              go_wp2
              go_quiet (fail)
              go_wp2
              go_roundw
              case rel => exact ⟨j + 1, by omega, by go_num, sat_drewM.2 Hwr.out⟩
              case measure => simp [intOf]; omega
            · have hjd : j = on := by omega
              subst hjd
              have H2 := hid (hwr.bring [5, 4] |> fun h => hwr)
              clear hwr
              go_wp2_with fail
              go_roundw
              case rel =>
                have h20 := H2.out.tail.tail.tail.tail.swap
                exact ⟨k + 1, s', by omega, by go_num, Hbd.out.1, Hbd.out.2, h20⟩
              case measure => simp [intOf]; omega
    · have Hold := hid hs.tail.tail
      have hgo2 : ¬ (k : Int) < ln ∨ ¬ (k : Int) < 60 := by omega
      have hgo3 : ¬ k < ln ∨ ¬ k < 60 := by omega
      clear hs hgo
      by_cases j1 : k < ln
      · have j1z : (k : Int) < ln := by omega
        have j2z : ¬ (k : Int) < 60 := by omega
        have j2n : ¬ k < 60 := by omega
        clear hgo2 hgo3
        go_wp2_with fail
        go_ret
        exact Ret.mk ⟨rfl, Hold.out⟩
      · have j1z : ¬ (k : Int) < ln := by omega
        clear hgo2 hgo3
        go_wp2_with fail
        go_ret
        exact Ret.mk ⟨rfl, Hold.out⟩
end
end Go.Proofs.YtpecmkkcepnpeaaDoor
