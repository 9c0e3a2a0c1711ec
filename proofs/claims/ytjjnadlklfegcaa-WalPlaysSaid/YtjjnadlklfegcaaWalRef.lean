/- Record of the document. No condition beside the sizes that it names. -/
import Derived.Test.YtjjnadlklfegcaaWalRec
import Derived.RegionTactic
import Derived.BigRegion
namespace Go.Proofs.Ytjjnadlklfegcaa
set_option linter.unusedVariables false
set_option linter.unusedSimpArgs false
open Go.RowKit

section
variable {w : World} {L : List HP}
theorem refwrong_ok {b : Int} {a : Option Addr} {n c : Nat} {d : List UInt8} (hd : d.length = n) (hn : n ≤ 9223372036854775807) (h : SatL w L) :
    Calls Try.prog 48 #[.agg #[.int .i64 b, .slice a n c]] w (Ret fun v w' => v = .int .i64 (soundE (b, d)) ∧ SatL w' L) := by
  subst hd
  by_cases h1 : b < 0
  · have e := hid (show soundE (b, d) = 1 by unfold soundE; rw [if_pos (.inl h1)])
    go_enter Try.func48, Try.ntmps48
    go_wp2
    go_ret
    exact Ret.mk ⟨by rw [e.out]; rfl, SatL.tail (h.alloc _)⟩
  · by_cases h2 : 4294967296 ≤ b
    · have e := hid (show soundE (b, d) = 1 by unfold soundE; rw [if_pos (.inr (by simp only; omega))])
      go_enter Try.func48, Try.ntmps48
      go_wp2
      go_ret
      exact Ret.mk ⟨by rw [e.out]; rfl, SatL.tail (h.alloc _)⟩
    · have hh : ¬ (b < 0 ∨ 4294967295 < b) := by omega
      by_cases h3 : d.length = 512
      · have e := hid (show soundE (b, d) = 0 by unfold soundE; rw [if_neg hh, if_neg (by simpa using h3)])
        have h4 : (d.length : Int) = 512 := by omega
        clear h3 hh
        go_enter Try.func48, Try.ntmps48
        go_wp2
        go_ret
        exact Ret.mk ⟨by rw [e.out]; rfl, SatL.tail (h.alloc _)⟩
      · have e := hid (show soundE (b, d) = 14 by unfold soundE; rw [if_neg hh, if_pos (by simpa using h3)])
        have h4 : ((d.length : Int) != 512) = true := by simp; omega
        clear h3 hh
        go_enter Try.func48, Try.ntmps48
        go_wp2
        go_ret
        exact Ret.mk ⟨by rw [e.out]; rfl, SatL.tail (h.alloc _)⟩

abbrev wordHC : Array Value := #[.int .u8 71, .int .u8 82, .int .u8 78, .int .u8 72, .int .u8 69, .int .u8 65, .int .u8 68, .int .u8 49]
theorem wordHC_eq : wordHC = (bvs wordH).toArray := by rfl
abbrev wordTC : Array Value := #[.int .u8 71, .int .u8 82, .int .u8 78, .int .u8 84, .int .u8 65, .int .u8 73, .int .u8 76, .int .u8 49]
theorem wordTC_eq : wordTC = (bvs wordT).toArray := by rfl
theorem headTop_snoc (seq n : Nat) (us : List Nat) (u : Nat) : wordH ++ lowb 8 seq ++ (n :: (us ++ [u])).flatMap (lowb 4) = wordH ++ lowb 8 seq ++ (n :: us).flatMap (lowb 4) ++ lowb 4 u := by
  rw [← List.cons_append, List.flatMap_append]; simp

theorem PutsR.cell2 {b off n c j : Nat} {ps : List Pt} {p : Pt} (h : SatL w (PutsR (.slice (some ⟨b, off, none⟩) n c) ps :: L)) (hp : ps[j]? = some p) : w.cell? ⟨b, off + j * 2, none⟩ = some (.int .i64 p.b) ∧ w.cell? ⟨b, off + j * 2 + 1, none⟩ = some p.v := by
  have h0 : 0 < ps.length := by have := (List.getElem?_eq_some_iff.1 hp).1; omega
  obtain ⟨b', off', hbo, hc⟩ := (PutsR.rdpts h).1.at h0
  cases hbo
  obtain ⟨c1, c2⟩ := pcells_get hp
  exact ⟨hc _ _ c1, by rw [Nat.add_assoc]; exact hc _ _ c2⟩
theorem flat_len {qs : List Pt} (h : ∀ q ∈ qs, q.d.length = 512) : ((qs.map (·.d)).flatten).length = 512 * qs.length := by
  induction qs with
  | nil => rfl
  | cons q qs ih =>
    rw [List.map_cons, List.flatten_cons, List.length_append, ih (fun x hx => h x (List.mem_cons_of_mem _ hx)), h q (by simp), List.length_cons]; omega
theorem recRows_512 {seq : Nat} {l : List PD} (h : recErr l = 0) : ∀ q ∈ recRows seq l, q.2.length = 512 := fun q hq => (recAll_ok (seq := seq) h q (List.mem_append_left _ hq)).1
theorem RdB.alloc {v : Value} {l : List UInt8} (h : RdB v l w) (o : Obj) : RdB v l (w.alloc o) := by
  rcases h with h | ⟨b, off, c, h0, h1, h2, h3⟩
  · exact .inl h
  · exact .inr ⟨b, off, c, h0, h1, h2, fun i hi => Lib.cell?_alloc_marked _ (h3 i hi)⟩
/-- append([]byte{}, x...) -/
theorem wpList_appnew {ops : Array Oper} {rest : List Oper} {o : Oper} {a : Act} {Q : Exit → Act → World → Prop} {nb : Nat} (hnb : nb = w.heap.size) (hgd : o.guard = none) (s x : Operand)
    (ho : o.op = .call { callee := .builtin .append, args := #[s, x], argTypes := #[27, 27] }) (hs : a.eval s = .slice (some ⟨nb, 0, none⟩) 0 0) {v : Value} (hy : a.eval x = v)
    (h : SatL w L) {l : List UInt8} (g : RdB v l w) (hl : l.length ≤ 1000000000) (K : ∀ v' w', SatL w' (SlB 5 v' l :: L) → wpList Try.prog ops Q rest (a.put o.dst v') w') :
    wpList Try.prog ops Q (o :: rest) a (w.alloc (.cells #[] 5)) := by
  subst hnb
  have h4 : SatL (w.alloc (.cells #[] 5)) (SlK 5 1 (.slice (some ⟨w.heap.size, 0, none⟩) 0 0) 0 [] :: L) :=
    sat_SlK.2 (.inr ⟨w.heap.size, 0, 0, #[], ⟨rfl, Nat.le_refl _, by decide, rfl, by simp, rfl⟩, h.alloc _⟩)
  refine wpList_append_sl hgd s x ho elem_byte hs h4 hy (SrcOk.ofRdB (RdB.alloc g _)) (bvs_one l) (by omega) (by unfold maxLen; omega) ?_
  intro v' w' h8 _
  exact K v' w' (by simpa using Sl.ofK h8)

set_option maxRecDepth 100000 in
set_option maxHeartbeats 4000000 in
theorem refrecord_ok {seq : Nat} {lv : Value} {ps : List Pt} (hs : seq < 18446744073709551616) (hl : ps.length ≤ 1000000) (h : SatL w (PutsR lv ps :: L)) :
    Calls Try.prog 14 #[.int .u64 seq, lv] w (Ret (RecPost L seq lv ps)) := by
  obtain ⟨a, c, rfl, q1, q2⟩ := (PutsR.rdpts h).1.valn
  have k1 := h.alloc (.cells #[.int .i64 0, .slice none 0 0] 29)
  have z0 := k1.cell (i := 0) rfl
  have z1 := k1.cell (i := 1) rfl
  have f0 := SatL.free k1 0
  have f1 := SatL.free k1 1
  have hld := fun (w' : World) (L' : List HP) (b : Nat) (h : SatL w' (cl b 29 #[.int .i64 0, .slice none 0 0] :: L')) => run_loadPut h
  by_cases h0 : ps.length = 0
  · have he := hid (show recErr (pds ps) = 2 by unfold recErr; rw [if_pos (by have := List.eq_nil_of_length_eq_zero h0; subst this; rfl)])
    go_enter Try.func14, Try.ntmps14
    go_wp2
    refine bodyPost_ret (results_tct rfl _ _ _ rfl (hld _ _ _ k1)) rfl (Ret.mk (rec_no he (by omega) k1))
  · by_cases h1 : 64 < ps.length
    · have he := hid (show recErr (pds ps) = 4 by unfold recErr; rw [if_neg (pds_ne h0), if_pos (by rw [pds_len]; exact h1)])
      go_enter Try.func14, Try.ntmps14
      go_wp2
      refine bodyPost_ret (results_tct rfl _ _ _ rfl (hld _ _ _ k1)) rfl (Ret.mk (rec_no he (by omega) k1))
    · have hE := hid (show recErr (pds ps) = recScan [] (pds ps) by unfold recErr; rw [if_neg (pds_ne h0), if_neg (by rw [pds_len]; exact h1)])
      have hp0 : 0 < ps.length := by omega
      have k0 := k1
      have n0 : ((ps.length : Int) == 0) = false := beq_eq_false_iff_ne.2 (by omega)
      have n1 : decide ((64 : Int) < ps.length) = false := decide_eq_false (by omega)
      go_enter Try.func14, Try.ntmps14
      go_wp2
      generalize hB : w.heap.size = eb at *
      clear z0 z1 f0 f1
      go_loopw [7] (fun i wr => ∃ j : Nat, j ≤ ps.length ∧ i = .int .i64 j ∧ recErr (pds ps) = recScan ((pds ps).take j) ((pds ps).drop j) ∧ SatL wr (cl eb 29 #[.int .i64 0, .slice none 0 0] :: PutsR (.slice a ps.length c) ps :: L)) (fun i _ => ps.length - (intOf i).toNat)
      case atStart => exact ⟨0, by omega, rfl, by rw [hE.out]; rfl, k0⟩
      case round =>
        clear k1 k0 h hE
        obtain ⟨j, hj, rfl, hsc, hs1⟩ := hrel
        by_cases hlt : j < ps.length
        · have hrd := PutsR.rdpts (hs1.pull 1 : SatL _ (PutsR _ _ :: _))
          obtain ⟨b, off, rfl, hc⟩ := hrd.1.at (by omega)
          have hp : ps[j]? = some ps[j] := List.getElem?_eq_getElem hlt
          obtain ⟨va, vc, hv, q3, q4⟩ := hrd.2 _ (List.getElem_mem hlt)
          obtain ⟨c1, c2⟩ := pcells_get hp
          have d1 := hc _ _ c1
          have d2 := hc _ _ c2
          rw [← Nat.add_assoc, hv] at d2
          rw [recScan_step (pds_get hp), pds_take] at hsc
          have hso := fun (w' : World) (L' : List HP) (h : SatL w' L') => refwrong_ok (b := ps[j].b) (a := va) (c := vc) (d := ps[j].d) rfl (by omega) h
          have hrb := fun (w' : World) (h : SatL w' (cl eb 29 #[.int .i64 0, .slice none 0 0] :: PutsR (.slice (some ⟨b, off, none⟩) ps.length c) ps :: L)) (q : Nat) (hq : q < ps.length) => SlK.cell (sat_PutsR.1 (h.pull 1 : SatL w' (PutsR _ _ :: _))) (pcells_get (List.getElem?_eq_getElem hq)).1
          have Hpj := hid (show ps[j].b = ps[j].b from rfl)
          generalize hpb : ps[j].b = pb at *
          generalize hpd : ps[j].d = pd at *
          generalize hse : soundE (pb, pd) = e at *
          generalize hpn : pd.length = pn at *
          clear hpd hc c1 c2 hp hv hrd hpn Hpj
          have Hpb := hid hpb
          by_cases he0 : e = 0
          · subst he0
            rw [if_neg (by simp)] at hsc
            have Hsc := hid hsc
            have Hrb := hid hrb
            clear hsc hrb hpb
            go_wp2_with (first
              | (go_at_call 48; (with_reducible refine (hso _ _ hs1).mono ?_); rintro e w3 ⟨v, rfl, rfl, hs3⟩))
            go_loopw [9] (fun i wr => ∃ q : Nat, q ≤ j ∧ i = .int .i64 q ∧ (∀ x ∈ (ps.take q).map (·.b), x ≠ pb) ∧ SatL wr (cl eb 29 #[.int .i64 0, .slice none 0 0] :: PutsR (.slice (some ⟨b, off, none⟩) ps.length c) ps :: L)) (fun i _ => j - (intOf i).toNat)
            case atStart => exact ⟨0, by omega, rfl, by simp, hs3⟩
            case round =>
              clear hs1 hs3 d1 d2
              obtain ⟨q, hq, rfl, hno, hs4⟩ := hrel
              by_cases hqj : q < j
              · have g1 := Hrb.out _ hs4 q (by omega)
                have g2 := Hrb.out _ hs4 j hlt
                rw [Hpb.out] at g2
                have hqp : ps[q]? = some ps[q] := List.getElem?_eq_getElem (by omega)
                have hsn := hid (show (ps.take (q + 1)).map (·.b) = (ps.take q).map (·.b) ++ [ps[q].b] by rw [List.take_add_one, hqp, List.map_append]; rfl)
                have hmem := hid (show ps[q].b ∈ (ps.take j).map (·.b) from List.mem_map.2 ⟨ps[q], by rw [List.mem_iff_getElem?]; exact ⟨q, by rw [List.getElem?_take, if_pos hqj, hqp]⟩, rfl⟩)
                generalize ps[q].b = qb at *
                have Hno := hid hno
                clear hno hqp
                by_cases heq : qb = pb
                · subst heq
                  have He := hid (show recErr (pds ps) = 8 by rw [Hsc.out, if_pos hmem.out])
                  go_wp2
                  go_region
                  have hs5 := sat_drew.2 hs4
                  have z0 := SatL.cell (v := .int .i64 0) hs4 (i := 0) rfl
                  have z1 := SatL.cell (v := .slice none 0 0) hs4 (i := 1) rfl
                  have f0 := SatL.free hs4 0
                  have f1 := SatL.free hs4 1
                  go_wp2
                  have k4 := SatL.set (SatL.set hs5 (i := 0) (.int .i64 0)) (i := 1) (.slice none 0 0)
                  refine bodyPost_ret (results_tct rfl _ _ _ rfl (hld _ _ _ k4)) rfl (Ret.mk (rec_no He (by omega) k4))
                · have hne : (qb == pb) = false := beq_eq_false_iff_ne.2 heq
                  have Heq := hid heq
                  clear heq
                  go_wp2
                  go_region
                  go_wp2
                  go_roundw
                  case rel =>
                    refine ⟨q + 1, by omega, by go_num, fun x hx => ?_, sat_drew.2 hs4⟩
                    rw [hsn.out] at hx
                    rcases List.mem_append.1 hx with hx | hx
                    · exact Hno.out x hx
                    · rw [List.mem_singleton.1 hx]; exact Heq.out
                  case measure => simp [intOf]; omega
              · obtain rfl : q = j := by omega
                have hno2 := hid (show ¬ pb ∈ (ps.take q).map (·.b) from fun h => hno _ h rfl)
                clear hno
                go_wp2
                go_roundw
                case rel => exact ⟨q + 1, by omega, by go_num, by rw [Hsc.out, if_neg hno2.out], hs4⟩
                case measure => simp [intOf]; omega
          · rw [if_pos he0] at hsc
            have He := hid hsc
            clear hsc
            have hel : (e != 0) = true := by simpa using he0
            go_wp2_with (first
              | (go_at_call 48; (with_reducible refine (hso _ _ hs1).mono ?_); rintro e w3 ⟨v, rfl, rfl, hs3⟩; have z0 := SatL.cell (v := .int .i64 0) hs3 (i := 0) rfl; have z1 := SatL.cell (v := .slice none 0 0) hs3 (i := 1) rfl; have f0 := SatL.free hs3 0; have f1 := SatL.free hs3 1))
            have k4 := SatL.set (SatL.set hs3 (i := 0) (.int .i64 0)) (i := 1) (.slice none 0 0)
            refine bodyPost_ret (results_tct rfl _ _ _ rfl (hld _ _ _ k4)) rfl (Ret.mk (rec_no He he0 k4))
        · obtain rfl : j = ps.length := by omega
          have hfull : (pds ps).take ps.length = pds ps ∧ (pds ps).drop ps.length = [] := ⟨List.take_of_length_le (by rw [pds_len]; omega), List.drop_of_length_le (by rw [pds_len]; omega)⟩
          rw [hfull.2] at hsc
          have He := hid (show recErr (pds ps) = 0 from hsc)
          obtain ⟨g1, g2, g3, g4⟩ := recErr_good He.out
          have G3 := hid g3
          clear hsc hfull g3 g4
          obtain ⟨b, off, rfl, hc⟩ := (PutsR.rdpts (hs1.pull 1 : SatL _ (PutsR _ _ :: _))).1.at hp0
          have hpl : ps.length ≤ 64 := by rw [pds_len] at g2; exact g2
          clear hc hB hj hlt n0 n1 h0 h1 g1
          have kc := Lib.run_convert_bytes_const (P := Try.prog) wr 27 5 wordHC 8 8 Try.underlying27 Try.underlying5
          rw [show wordHC.size = 8 from rfl] at kc
          have k1 := hs1.alloc (.cells wordHC 5 (8, 9))
          have hlw := lowc_ok (n := 8) (k := 8) (x := seq) (bs := wordH) (by omega) (by omega) hs (by simp [wordH]) rfl k1 (RdB.ofPt (n := 8) (c := 8) k1 wordHC_eq rfl (by omega) (by omega))
          rw [show ((8 : Nat) : Int) = 8 from rfl] at hlw
          have w64 := u64_in ps.length (by omega)
          have t1 : True := trivial
          go_wp2_with (first
            | (have _t := t1; go_at_call 49; (with_reducible refine hlw.mono ?_); rintro e w3 ⟨v, rfl, hs3⟩; clear t1; have hlw2 := low_ok (k := 4) (x := ps.length) (by omega) (by omega) (by rw [List.length_append, lowb_len]; simp [wordH]) hs3; rw [show ((4 : Nat) : Int) = 4 from rfl] at hlw2; have t2 : True := trivial)
            | (have _t := t2; go_at_call 49; (with_reducible refine hlw2.mono ?_); rintro e w4 ⟨v4, rfl, hs4⟩; clear t2))
          have hs5 : SatL w4 (SlB 5 v4 (wordH ++ lowb 8 seq ++ (ps.length :: ((pds ps).take 0).map (·.1.toNat)).flatMap (lowb 4)) :: cl eb 29 #[.int .i64 0, .slice none 0 0] :: PutsR (.slice (some ⟨b, off, none⟩) ps.length c) ps :: L) := by
            have := SatL.tail (hs4.bring [1, 0, 2, 3])
            simpa using this
          clear kc k1 hlw hlw2 hs4 hs3 hs1
          go_loopw [10, 11] (fun hv i wr => ∃ j : Nat, j ≤ ps.length ∧ i = .int .i64 j ∧ SatL wr (SlB 5 hv (wordH ++ lowb 8 seq ++ (ps.length :: ((pds ps).take j).map (·.1.toNat)).flatMap (lowb 4)) :: cl eb 29 #[.int .i64 0, .slice none 0 0] :: PutsR (.slice (some ⟨b, off, none⟩) ps.length c) ps :: L)) (fun _ i _ => ps.length - (intOf i).toNat)
          case atStart => exact ⟨0, by omega, rfl, hs5⟩
          case round =>
            clear hs5
            obtain ⟨j, hj, rfl, hs2⟩ := hrel
            by_cases hlt : j < ps.length
            · have hrd := PutsR.rdpts (hs2.pull 2 : SatL _ (PutsR _ _ :: _))
              obtain ⟨b', off', hbo, hc⟩ := hrd.1.at (by omega)
              cases hbo
              have hp : ps[j]? = some ps[j] := List.getElem?_eq_getElem hlt
              obtain ⟨c1, c2⟩ := pcells_get hp
              have d1 := hc _ _ c1
              have hgd := G3.out _ (List.mem_map.2 ⟨ps[j], List.getElem_mem hlt, rfl⟩)
              obtain ⟨kb, hkb⟩ : ∃ kb : Nat, ps[j].b = kb := ⟨ps[j].b.toNat, by have := hgd.1; simp only at this; omega⟩
              have hsn := hid (show ((pds ps).take (j + 1)).map (·.1.toNat) = ((pds ps).take j).map (·.1.toNat) ++ [kb] by rw [List.take_add_one, pds_get hp, List.map_append]; show _ ++ [ps[j].b.toNat] = _; rw [hkb]; rfl)
              rw [hkb] at d1
              have hkl : kb < 4294967296 := by have := hgd.2.1; simp only at this; omega
              have wp : IntKind.u64.wrap (kb : Int) = kb := u64_in kb (by omega)
              have hlw := low_ok (k := 4) (x := kb) (by omega) (by omega) (by rw [List.length_append, List.length_append, lowb_len, flatMap_lowb4_len]; simp [wordH]; omega) hs2
              rw [show ((4 : Nat) : Int) = 4 from rfl] at hlw
              clear hc c1 c2 hp hrd hgd hkb
              go_wp2_with (go_at_call 49; (with_reducible refine hlw.mono ?_); rintro e w3 ⟨v, rfl, hs3⟩)
              go_roundw
              case rel =>
                refine ⟨j + 1, by omega, by go_num, ?_⟩
                rw [hsn.out, headTop_snoc]
                exact hs3
              case measure => simp [intOf]; omega
            · obtain rfl : j = ps.length := by omega
              rw [List.take_of_length_le (by rw [pds_len]; omega)] at hs2
              have htop : wordH ++ lowb 8 seq ++ (ps.length :: (pds ps).map (·.1.toNat)).flatMap (lowb 4) = headTop seq (pds ps) := by unfold headTop places; rw [pds_len]
              rw [htop] at hs2
              have htl := headTop_len seq (pds ps)
              rw [pds_len] at htl
              obtain ⟨m, hm⟩ : ∃ m, m = 20 + 4 * ps.length := ⟨_, rfl⟩
              rw [← hm] at htl
              have hm5 : m ≤ 508 := by omega
              have hno := fun (w' : World) (v : Value) (L' : List HP) (h : SatL w' (SlB 5 v (headTop seq (pds ps)) :: L')) => noughts_ok (n := 508 - (m : Int)) (by omega) (by omega) h
              have hbo : headTop seq (pds ps) ++ List.replicate (508 - (m : Int)).toNat 0 = headBody seq (pds ps) := by
                unfold headBody
                rw [htl]
                congr 2; omega
              simp only [hbo] at hno
              obtain ⟨ha, hc, rfl, q3, q4⟩ := Sl.valn hs2 (m := m) (by rw [bvs_len, htl])
              have hbl := headBody_len (seq := seq) g2
              have hCl := crcN_lt (headBody seq (pds ps))
              have w64 := u64_in (crcN (headBody seq (pds ps))) (by omega)
              have hlw := fun (w' : World) (v : Value) (L' : List HP) (h : SatL w' (SlB 5 v (headBody seq (pds ps)) :: L')) => low_ok (k := 4) (x := crcN (headBody seq (pds ps))) (by omega) (by omega) (by rw [hbl]; omega) h
              simp only [show headBody seq (pds ps) ++ lowb 4 (crcN (headBody seq (pds ps))) = headB seq (pds ps) from rfl, show ((4 : Nat) : Int) = 4 from rfl] at hlw
              have hcrc := fun (w' : World) (v : Value) (L' : List HP) (h : SatL w' (SlB 5 v (headBody seq (pds ps)) :: L')) => refcrc_ok (SlB.rd h)
              generalize crcN (headBody seq (pds ps)) = C at *
              have Hm := hid hm
              have Hhl := hid (headB_len (seq := seq) g2)
              clear hm htop hbo hlt hj htl
              go_wp2_with (first
                | (go_at_call 50; (with_reducible refine (hno _ _ _ hs2).mono ?_); rintro e w3 ⟨v3, rfl, hs3⟩; obtain ⟨hda, hdc, rfl, q5, q6⟩ := Sl.valn hs3 (m := 508) (by rw [bvs_len, hbl]))
                | (go_at_call 20; (with_reducible refine (hcrc _ _ _ hs3).mono ?_); rintro e w4 ⟨rfl, rfl⟩)
                | (go_at_call 49; (with_reducible refine (hlw _ _ _ hs3).mono ?_); rintro e w5 ⟨v5, rfl, hs5⟩; obtain ⟨hea, hec, rfl, q7, q8⟩ := Sl.valn hs5 (m := 512) (by rw [bvs_len, Hhl.out]); have hs6 := hs5.alloc (.cells #[.int .i64 0, .slice hea 512 hec] 29); have grd := SlB.rd (SatL.swap hs6); have hlen6 : (headB seq (pds ps)).length ≤ 1000000000 := by rw [Hhl.out]; omega)
                | (at_builtin; refine wpList_appnew (nb := w5.heap.size + 1) (by simp) rfl (.tmp 91) (.tmp 92) rfl rfl rfl hs6 grd hlen6 ?_; intro v7 w7 hs7))
              have ha4 := PutsR.one (hs7.bring [1, 2, 0, 3, 4])
              have hz : headB seq (pds ps) = (([⟨0, .slice hea 512 hec, headB seq (pds ps)⟩] : List Pt).map (·.d)).flatten := by simp
              have ha5 : SatL w7 (PutsR (.slice (some ⟨w5.heap.size, 0, none⟩) 1 1) [⟨0, .slice hea 512 hec, headB seq (pds ps)⟩] :: SlB 5 v7 ((([⟨0, .slice hea 512 hec, headB seq (pds ps)⟩] : List Pt).map (·.d)).flatten) :: cl eb 29 #[.int .i64 0, .slice none 0 0] :: PutsR (.slice (some ⟨b, off, none⟩) ps.length c) ps :: L) := by rw [← hz]; exact ha4
              clear ha4 hz hs7 hs6 hs5 hs3 hs2 grd hlen6 hno hlw hcrc
              go_loopw [12, 13, 14] (fun ov av i wr => ∃ (j : Nat) (qs : List Pt), j ≤ ps.length ∧ i = .int .i64 j ∧ qs.length = j + 1 ∧ pds qs = (recRows seq (pds ps)).take (j + 1) ∧ SatL wr (PutsR ov qs :: SlB 5 av ((qs.map (·.d)).flatten) :: cl eb 29 #[.int .i64 0, .slice none 0 0] :: PutsR (.slice (some ⟨b, off, none⟩) ps.length c) ps :: L)) (fun _ _ i _ => ps.length - (intOf i).toNat)
              case atStart => exact ⟨0, _, by omega, rfl, rfl, by simp [recRows], ha5⟩
              case round =>
                clear ha5
                obtain ⟨j, qs, hj, rfl, hql, hq, hs7⟩ := hrel
                have hq5 : ∀ q ∈ qs, q.d.length = 512 := by
                  intro q hqm
                  have : (q.b, q.d) ∈ pds qs := List.mem_map.2 ⟨q, hqm, rfl⟩
                  rw [hq] at this
                  exact recRows_512 He.out _ (List.mem_of_mem_take this)
                have hfl5 := flat_len hq5
                have Hq5 := hid hq5
                clear hq5
                by_cases hlt : j < ps.length
                · have hp : ps[j]? = some ps[j] := List.getElem?_eq_getElem hlt
                  obtain ⟨va, vc, hv, q5, q6⟩ := PutsR.ptsl (hs7.pull 3 : SatL _ (PutsR _ _ :: _)) _ (List.getElem_mem hlt)
                  have hgd := G3.out _ (List.mem_map.2 ⟨ps[j], List.getElem_mem hlt, rfl⟩)
                  have hpn : ps[j].d.length = 512 := hgd.2.2
                  rw [hpn] at hv q5
                  have hc2 := fun (w' : World) (L' : List HP) (h : SatL w' (PutsR (.slice (some ⟨b, off, none⟩) ps.length c) ps :: L')) => (PutsR.cell2 h hp).2
                  have hrb := fun (w' : World) (L' : List HP) (h : SatL w' (PutsR (.slice (some ⟨b, off, none⟩) ps.length c) ps :: L')) => PutsR.rdb h (List.getElem_mem hlt)
                  rw [hv] at hc2 hrb
                  have hsn := hid (show (recRows seq (pds ps)).take (j + 1 + 1) = (recRows seq (pds ps)).take (j + 1) ++ [(((1 + j : Nat) : Int), ps[j].d)] by
                    rw [List.take_add_one]
                    congr 1
                    unfold recRows
                    rw [List.getElem?_cons_succ, inRow_get (pds_get hp)]
                    rfl)
                  generalize hpd : ps[j].d = pd at *
                  have d2 := hc2 _ _ ((hs7.alloc (.cells #[] 5)).pull 4)
                  have g2 := hrb _ _ (hs7.pull 3)
                  have hpl2 : pd.length ≤ 1000000000 := by omega
                  have b2 : (qs.length + 1) * 32 ≤ 140737488355328 := by omega
                  have b9 : 0 < 32 := by omega
                  have b3 : (((qs.map (·.d)).flatten).length + pd.length) * 1 ≤ 140737488355328 := by rw [hfl5]; omega
                  have b4 : ((qs.map (·.d)).flatten).length + pd.length ≤ maxLen := by unfold maxLen; rw [hfl5]; omega
                  have Hq := hid hq
                  have Hql := hid hql
                  have Hpn := hid hpn
                  have Hfl := hid hfl5
                  clear hpn hp hv hgd hpd hq hql hfl5
                  have t1 : True := trivial
                  go_wp2_with (first
                    | (have _t := t1; at_builtin; refine wpList_appnew (nb := wr.heap.size) rfl rfl (.tmp 103) (.tmp 108) rfl rfl rfl hs7 g2 hpl2 ?_; intro v7 w7 h7; clear t1; obtain ⟨ca, cc, rfl, q7, q8⟩ := Sl.valn h7 (m := 512) (by rw [bvs_len, Hpn.out]); have h9 := sat_PutsR.1 (SatL.pull h7 1); have t2 : True := trivial)
                    | (have _t := t2; at_builtin; refine wpList_pushK_sl rfl rfl (.tmp 100) (.tmp 111) rfl elem_put b9 rfl h9 rfl rfl (by simp [Value.oneCell']) b2 ?_; intro v9 w9 h10; clear t2; have d9 := hc2 _ _ (SatL.pull h10 5); have g9 := SrcOk.ofRdB (hrb _ _ (SatL.pull h10 5)); have h11 := Sl.toK (SatL.pull h10 3) (bvs_len _); have t3 : True := trivial)
                    | (have _t := t3; at_builtin; refine wpList_append_sl rfl (.tmp 113) (.tmp 118) rfl elem_byte rfl h11 rfl g9 (bvs_one _) b3 b4 ?_; intro v10 w10 h12 _; clear t3))
                  go_roundw
                  case rel =>
                    have h13 := h12.bring [1, 2, 3]
                    have h14 := PutsL.snoc (ps := qs) (b := (j : Int) + 1) (d := pd) h13
                    have e : bvs ((qs.map (·.d)).flatten) ++ bvs pd = bvs (((qs ++ [(⟨(j : Int) + 1, .slice ca 512 cc, pd⟩ : Pt)]).map (·.d)).flatten) := by rw [List.map_append, List.flatten_append, bvs_append]; simp
                    have h15 := Sl.ofK (SatL.pull h14 1 : SatL _ (SlK _ 1 _ _ _ :: _))
                    rw [e] at h15
                    refine ⟨j + 1, qs ++ [(⟨(j : Int) + 1, .slice ca 512 cc, pd⟩ : Pt)], by omega, by go_num, by rw [List.length_append, Hql.out]; rfl, ?_, SatL.swap h15⟩
                    rw [hsn.out, pds_snoc, Hq.out]
                    simp
                    omega
                  case measure => simp [intOf]; omega
                · obtain rfl : j = ps.length := by omega
                  rw [List.take_of_length_le (by unfold recRows; rw [List.length_cons, inRow_len, pds_len]; omega)] at hq
                  have hfl : (qs.map (·.d)).flatten = headB seq (pds ps) ++ ((pds ps).map (·.2)).flatten := by
                    have : qs.map (·.d) = (pds qs).map (·.2) := by rw [List.map_map]; rfl
                    rw [this, hq]
                    unfold recRows
                    rw [List.map_cons, inRow_snd, List.flatten_cons]
                  have hcr := fun (w' : World) (L' : List HP) (h : SatL w' (SlB 5 u13 ((qs.map (·.d)).flatten) :: L')) => refcrc_ok (SlB.rd h)
                  rw [hfl] at hs7
                  rw [hfl, show crcN (headB seq (pds ps) ++ ((pds ps).map (·.2)).flatten) = groupCrc seq (pds ps) from rfl] at hcr
                  have hgl := groupCrc_lt seq (pds ps)
                  have w5 := u64_in (groupCrc seq (pds ps)) (by omega)
                  have kc := Lib.run_convert_bytes_const (P := Try.prog) wr 27 5 wordTC 8 8 Try.underlying27 Try.underlying5
                  rw [show wordTC.size = 8 from rfl] at kc
                  have k1 := hs7.alloc (.cells wordTC 5 (8, 9))
                  have hlw := lowc_ok (n := 8) (k := 8) (x := seq) (bs := wordT) (by omega) (by omega) hs (by simp [wordT]) rfl k1 (RdB.ofPt (n := 8) (c := 8) k1 wordTC_eq rfl (by omega) (by omega))
                  rw [show ((8 : Nat) : Int) = 8 from rfl] at hlw
                  have hlw2 := fun (w' : World) (v : Value) (L' : List HP) (h : SatL w' (SlB 5 v (wordT ++ lowb 8 seq) :: L')) => low_ok (k := 4) (x := groupCrc seq (pds ps)) (by omega) (by omega) (by rw [List.length_append, lowb_len]; simp [wordT]) h
                  simp only [show wordT ++ lowb 8 seq ++ lowb 4 (groupCrc seq (pds ps)) = endTop seq (groupCrc seq (pds ps)) from rfl, show ((4 : Nat) : Int) = 4 from rfl] at hlw2
                  have hno := fun (w' : World) (v : Value) (L' : List HP) (h : SatL w' (SlB 5 v (endTop seq (groupCrc seq (pds ps))) :: L')) => noughts_ok (n := 492) (by omega) (by rw [endTop_len]; omega) h
                  simp only [show endTop seq (groupCrc seq (pds ps)) ++ List.replicate (492 : Int).toNat 0 = endB seq (pds ps) from rfl] at hno
                  have hel : (endB seq (pds ps)).length = 512 := endOf_len _ _
                  have htl : (endTop seq (groupCrc seq (pds ps))).length = 20 := endTop_len _ _
                  have Hq := hid hq
                  have hld2 := fun (w' : World) (L' : List HP) (b : Nat) (x y : Value) (h : SatL w' (cl b 29 #[x, y] :: L')) => run_loadPut h
                  have Htl := hid htl
                  have Hel := hid hel
                  generalize endTop seq (groupCrc seq (pds ps)) = ET at *
                  generalize groupCrc seq (pds ps) = G at *
                  clear hq hfl hlt hj hql hld hfl5 hm5 htl hel hbl
                  have t1 : True := trivial
                  go_wp2_with (first
                    | (have _t := t1; go_at_call 49; (with_reducible refine hlw.mono ?_); rintro e w3 ⟨v, rfl, hs8⟩; clear t1; have hcr8 := hcr _ _ (SatL.pull hs8 3); have t2 : True := trivial)
                    | (go_at_call 20; (with_reducible refine hcr8.mono ?_); rintro e w7 ⟨rfl, rfl⟩)
                    | (have _t := t2; go_at_call 49; (with_reducible refine (hlw2 _ _ _ hs8).mono ?_); rintro e w4 ⟨v4, rfl, hs9⟩; clear t2; obtain ⟨ta, tc, rfl, q3, q4⟩ := Sl.valn hs9 (m := 20) (by rw [bvs_len, Htl.out]))
                    | (go_at_call 50; (with_reducible refine (hno _ _ _ hs9).mono ?_); rintro e w8 ⟨v8, rfl, h8⟩; obtain ⟨ea, ec, rfl, q5, q6⟩ := Sl.valn h8 (m := 512) (by rw [bvs_len, Hel.out]); have k3 : SatL w8 (cl eb _ _ :: _) := SatL.pull h8 4; have z0 := SatL.cell (v := .int .i64 0) k3 (i := 0) rfl; have z1 := SatL.cell (v := .slice none 0 0) k3 (i := 1) rfl; have f0 := SatL.free k3 0; have f1 := SatL.free k3 1))
                  have k4 : SatL ((w8.setCell ⟨eb, 0, none⟩ (.int .i64 (ps.length + 1))).setCell ⟨eb, 1, none⟩ (.slice ea 512 ec)) (cl eb 29 #[.int .i64 (ps.length + 1), .slice ea 512 ec] :: SlB 5 (.slice ea 512 ec) (endB seq (pds ps)) :: pt wr.heap.size (.cells wordTC 5 (8, 9)) :: PutsR u12 qs :: SlB 5 u13 (headB seq (pds ps) ++ ((pds ps).map (·.2)).flatten) :: PutsR (.slice (some ⟨b, off, none⟩) ps.length c) ps :: L) := SatL.set (SatL.set k3 (i := 0) (.int .i64 (ps.length + 1))) (i := 1) (.slice ea 512 ec)
                  refine bodyPost_ret (results_tct rfl _ _ _ rfl (hld2 _ _ eb (.int .i64 (ps.length + 1)) (.slice ea 512 ec) k4)) rfl ?_
                  refine Ret.mk ?_
                  have hlast : recLast seq (pds ps) = (((ps.length + 1 : Nat) : Int), endB seq (pds ps)) := by
                    unfold recLast recEnd
                    rw [if_pos He.out, pds_len, Nat.add_comm]
                  have hout : recOut seq (pds ps) = recRows seq (pds ps) := by unfold recOut; rw [if_pos He.out]
                  refine ⟨u12, .slice ea 512 ec, ?_, ?_⟩
                  · rw [hlast, He.out]
                    simp
                  · rw [hlast, hout]
                    refine sat_PutsL.2 ⟨qs, Hq.out, SatL.tail (SatL.tail (SatL.tail (k4.bring [0, 2, 4, 3, 1, 5])))⟩
end
end Go.Proofs.Ytjjnadlklfegcaa
