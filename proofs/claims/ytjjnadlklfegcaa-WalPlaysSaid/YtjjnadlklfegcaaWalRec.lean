/- Record of the program. No condition beside the sizes that it names. -/
import Derived.Test.YtjjnadlklfegcaaWalA
import Derived.Test.YtjjnadlklfegcaaClone
import Derived.Test.YtjjnadlklfegcaaWalBack
namespace Go.Proofs.Ytjjnadlklfegcaa
set_option linter.unusedVariables false
set_option linter.unusedSimpArgs false
open Go.RowKit

abbrev pds (ps : List Pt) : List PD := ps.map fun p => (p.b, p.d)
theorem inRow_snd (n : Nat) (l : List PD) : (inRow n l).map (·.2) = l.map (·.2) := by
  apply List.ext_getElem?
  intro i
  rw [List.getElem?_map, List.getElem?_map]
  unfold inRow
  rw [List.getElem?_mapIdx]
  cases l[i]? <;> rfl
theorem pds_len (ps : List Pt) : (pds ps).length = ps.length := by simp
theorem pds_snoc (ps : List Pt) (p : Pt) : pds (ps ++ [p]) = pds ps ++ [(p.b, p.d)] := by simp
theorem pds_ne {ps : List Pt} (h : ¬ ps.length = 0) : pds ps ≠ [] := fun e => h (by rw [← pds_len, e]; rfl)
theorem pds_get {ps : List Pt} {j : Nat} {p : Pt} (h : ps[j]? = some p) : (pds ps)[j]? = some (p.b, p.d) := by simp [h]
theorem pds_take (ps : List Pt) (j : Nat) : ((pds ps).take j).map (·.1) = (ps.take j).map (·.b) := by rw [← List.map_take, List.map_map]; rfl
/-- what a group's record is, or nothing -/
def recOut (seq : Nat) (l : List PD) : List PD := if recErr l = 0 then recRows seq l else []
def recLast (seq : Nat) (l : List PD) : PD := if recErr l = 0 then recEnd seq l else (0, [])
theorem recOut_no {seq : Nat} {l : List PD} (h : recErr l ≠ 0) : recOut seq l = [] := by unfold recOut; rw [if_neg h]
theorem recLast_no {seq : Nat} {l : List PD} (h : recErr l ≠ 0) : recLast seq l = (0, []) := by unfold recLast; rw [if_neg h]

theorem results_tct {fn : Func} {t a u T : Nat} (hr : fn.results = #[.tmp t, .cell a T, .tmp u]) (P : Program) (tmps : Array Value) (w : World) {b : Nat} {vb : Value} (ha : tmps.getD a undef = .pointer (some ⟨b, 0, none⟩))
    (hl : (loadVar T ⟨b, 0, none⟩).run P w = .ok vb w) : (results fn tmps).run P w = .ok (.tuple #[tmps.getD t undef, vb, tmps.getD u undef]) w := by
  have ha2 : tmps[a]?.getD undef = .pointer (some ⟨b, 0, none⟩) := by simpa using ha
  unfold results
  rw [hr]
  simp [ha2, asAddr, hl]

theorem head_of (seq : Nat) (l : List PD) (h : l.length ≤ 64) : (blockB wordH seq (places l)).take 508 = headBody seq l := by
  have e : blockB wordH seq (places l) = headBody seq l ++ List.replicate 4 0 := by
    unfold blockB headBody
    have : wordH ++ lowb 8 seq ++ (places l).flatMap (lowb 4) = headTop seq l := rfl
    rw [this, List.append_assoc, List.replicate_append_replicate, headTop_len]
    congr 2; omega
  rw [e]
  have := List.take_left (l₁ := headBody seq l) (l₂ := List.replicate 4 0)
  rwa [headBody_len h] at this
theorem blockB_len {word : List UInt8} {seq : Nat} {us : List Nat} (hw : word.length = 8) (h : us.length ≤ 100) : (blockB word seq us).length = 512 := by
  unfold blockB
  have : (word ++ lowb 8 seq ++ us.flatMap (lowb 4)).length = 16 + 4 * us.length := by
    rw [List.length_append, List.length_append, lowb_len, flatMap_lowb4_len, hw]
  rw [List.length_append, List.length_replicate, this]; omega
theorem head_set (seq : Nat) (l : List PD) (h : l.length ≤ 64) : (blockB wordH seq (places l)).take 508 ++ lowb 4 (crcN (headBody seq l)) ++ (blockB wordH seq (places l)).drop (508 + 4) = headB seq l := by
  rw [head_of seq l h, List.drop_of_length_le (by rw [blockB_len rfl (by simp [places]; omega)]; omega), List.append_nil]
  rfl
theorem end_of (seq c : Nat) : blockB wordT seq [c] = endOf seq c := by
  unfold blockB
  have e : wordT ++ lowb 8 seq ++ [c].flatMap (lowb 4) = endTop seq c := by simp [endTop]
  rw [e, endTop_len]; rfl

section
variable {w : World} {L : List HP}
theorem PutsR.ptsl {lv : Value} {ps : List Pt} (h : SatL w (PutsR lv ps :: L)) : ∀ p ∈ ps, PtSl p := by
  intro p hp
  obtain ⟨a, b, rfl⟩ := List.append_of_mem hp
  have h2 := (sat_PutsR.1 h).swap
  have h3 := big_mid.1 h2
  obtain ⟨va, vc, hv, h4, h5⟩ := Sl.valn h3 (m := p.d.length) (by rw [bvs_len])
  exact ⟨va, vc, hv, h4, h5⟩
theorem PutsR.rdpts {lv : Value} {ps : List Pt} (h : SatL w (PutsR lv ps :: L)) : RdPts lv ps w := ⟨SlK.rdk (sat_PutsR.1 h), PutsR.ptsl h⟩
theorem RdPts.take {b off c : Nat} {ps : List Pt} (h : RdPts (.slice (some ⟨b, off, none⟩) ps.length c) ps w) {m : Nat} (hm : m ≤ ps.length) : RdPts (.slice (some ⟨b, off, none⟩) m c) (ps.take m) w := by
  have h1 := h.1.take hm
  rw [pcells_take] at h1
  have hl : (ps.take m).length = m := by rw [List.length_take]; omega
  refine ⟨?_, fun p hp => h.2 p (List.mem_of_mem_take hp)⟩
  rw [hl]; exact h1

theorem Sl.mk {T nb n : Nat} {cs : Array Value} {xs : List Value} (h : SatL w (cl nb T cs :: L)) (hx : cs.toList = xs) (hn : xs.length = n) (hn2 : n ≤ 1000000) : SatL w (Sl T (.slice (some ⟨nb, 0, none⟩) n n) xs :: L) := by
  subst hx
  subst hn
  exact Sl.ofK (n := cs.toList.length) (sat_SlK.2 (.inr ⟨nb, 0, cs.toList.length, cs, ⟨rfl, Nat.le_refl _, by unfold maxLen; omega, by simp, by simp, by rw [List.drop_zero]; exact List.take_of_length_le (by omega)⟩, h⟩))
theorem elem_u64 : ElemOk Try.prog 94 22 1 8 [Value.int .u64 0] := .of (z := .int .u64 0) (by kernel_rfl) (by kernel_rfl) rfl rfl (by decide) (by simp [Value.oneCell'])
theorem elem_rows : ElemOk Try.prog 98 27 1 24 [Value.slice none 0 0] := .of (z := .slice none 0 0) (by kernel_rfl) (by kernel_rfl) rfl rfl (by decide) (by simp [Value.oneCell'])
theorem RdU.ofSl {v : Value} {us : List Nat} (h : SatL w (Sl 22 v (us.map u64v) :: L)) : RdU v us w := by
  obtain ⟨a, c, rfl, h1, h2⟩ := Sl.valn h (m := us.length) (by simp)
  rcases Nat.eq_zero_or_pos us.length with h0 | h0
  · rcases Sl.form h with ⟨h3, h4⟩ | ⟨b, off, cap, h3, h4, h5⟩
    · injection h3 with e1 e2 e3
      subst e1; subst e3
      exact .inl ⟨by rw [h0], List.eq_nil_of_length_eq_zero h0⟩
    · injection h3 with e1 e2 e3
      subst e1
      exact .inr ⟨b, off, c, rfl, h1, h2, fun i hi => by omega⟩
  · obtain ⟨b, off, rfl⟩ := Sl.addr h h0
    exact .inr ⟨b, off, c, rfl, h1, h2, fun i hi => Sl.cell h (by simp [List.getD, hi])⟩
theorem PutsR.rdb {lv : Value} {ps : List Pt} {p : Pt} (h : SatL w (PutsR lv ps :: L)) (hp : p ∈ ps) : RdB p.v p.d w := by
  obtain ⟨a, b, rfl⟩ := List.append_of_mem hp
  have h2 := big_mid.1 (sat_PutsR.1 h).swap
  have h3 : SatL w (SlB 5 p.v p.d :: _) := h2
  exact SlB.rd h3
/-- rows of which each is a block's bytes -/
theorem RdRows.ofQs {v : Value} {qs : List Pt} (h : SatL w (Sl 27 v (qs.map (·.v)) :: big (fun p : Pt => SlB 5 p.v p.d) qs :: L)) : RdRows v (qs.map (·.d)) w := by
  have hrd : ∀ q ∈ qs, RdB q.v q.d w := by
    intro q hq
    obtain ⟨a, b, rfl⟩ := List.append_of_mem hq
    have h2 := big_mid.1 h.swap
    have h3 : SatL w (SlB 5 q.v q.d :: _) := h2
    exact SlB.rd h3
  obtain ⟨a, c, rfl, h1, h2⟩ := Sl.valn h (m := qs.length) (by simp)
  rcases Nat.eq_zero_or_pos qs.length with h0 | h0
  · have hq : qs = [] := List.eq_nil_of_length_eq_zero h0
    subst hq
    rcases Sl.form h with ⟨h3, h4⟩ | ⟨b, off, cap, h3, h4, h5⟩
    · injection h3 with e1 e2 e3
      subst e1; subst e3
      exact .inl ⟨rfl, rfl⟩
    · injection h3 with e1 e2 e3
      subst e1
      exact .inr ⟨b, off, c, rfl, h1, h2, fun i hi => by simp at hi⟩
  · obtain ⟨b, off, rfl⟩ := Sl.addr h h0
    refine .inr ⟨b, off, c, by simp, by simpa using h1, h2, fun i hi => ?_⟩
    have hi2 : i < qs.length := by simpa using hi
    refine ⟨qs[i].v, Sl.cell h (by simp [hi2]), ?_⟩
    have := hrd qs[i] (List.getElem_mem hi2)
    simpa [List.getD, hi2] using this
theorem run_loadPut {b : Nat} {x y : Value} (h : SatL w (cl b 29 #[x, y] :: L)) : (loadVar 29 ⟨b, 0, none⟩).run Try.prog w = .ok (.agg #[x, y]) w := by
  have c0 := h.cell (i := 0) rfl
  have c1 := h.cell (i := 1) rfl
  simp [go_sem, c0, c1]
def RecPost (L : List HP) (seq : Nat) (lv : Value) (ps : List Pt) (r : Value) (w' : World) : Prop := ∃ ov ev, r = .tuple #[ov, .agg #[.int .i64 (recLast seq (pds ps)).1, ev], .int .i64 (recErr (pds ps))] ∧
      SatL w' (PutsL ov (recOut seq (pds ps)) :: SlB 5 ev (recLast seq (pds ps)).2 :: PutsR lv ps :: L)
theorem rec_no {seq : Nat} {lv : Value} {ps : List Pt} {eb : Nat} {e : Int} (he : Hid (recErr (pds ps) = e)) (he0 : e ≠ 0) (h : SatL w (cl eb 29 #[.int .i64 0, .slice none 0 0] :: PutsR lv ps :: L)) :
    RecPost L seq lv ps (.tuple #[.slice none 0 0, .agg #[.int .i64 0, .slice none 0 0], .int .i64 e]) w := by
  have hn : recErr (pds ps) ≠ 0 := by rw [he.out]; exact he0
  refine ⟨.slice none 0 0, .slice none 0 0, by rw [recLast_no hn, he.out], ?_⟩
  rw [recOut_no hn, recLast_no hn]
  refine sat_PutsL.2 ⟨[], rfl, sat_PutsR.2 (SlK_nil ((big_nil (f := fun p : Pt => SlB 5 p.v p.d)).2 (Sl_nil h.tail)))⟩

set_option maxRecDepth 100000 in
set_option maxHeartbeats 4000000 in
theorem record_ok {seq : Nat} {lv : Value} {ps : List Pt} (hs : seq < 18446744073709551616) (hl : ps.length ≤ 1000000) (h : SatL w (PutsR lv ps :: L)) :
    Calls Try.prog 13 #[.int .u64 seq, lv] w (Ret (RecPost L seq lv ps)) := by
  obtain ⟨a, c, rfl, q1, q2⟩ := (PutsR.rdpts h).1.valn
  have k1 := h.alloc (.cells #[.int .i64 0, .slice none 0 0] 29)
  have z0 := k1.cell (i := 0) rfl
  have z1 := k1.cell (i := 1) rfl
  have f0 := SatL.free k1 0
  have f1 := SatL.free k1 1
  have hld := fun (w' : World) (L' : List HP) (b : Nat) (h : SatL w' (cl b 29 #[.int .i64 0, .slice none 0 0] :: L')) => run_loadPut h
  by_cases h0 : ps.length = 0
  · have he := hid (show recErr (pds ps) = 2 by unfold recErr; rw [if_pos (by have := List.eq_nil_of_length_eq_zero h0; subst this; rfl)])
    go_enter Try.func13, Try.ntmps13
    go_wp2
    refine bodyPost_ret (results_tct rfl _ _ _ rfl (hld _ _ _ k1)) rfl (Ret.mk (rec_no he (by omega) k1))
  · by_cases h1 : 64 < ps.length
    · have he := hid (show recErr (pds ps) = 4 by unfold recErr; rw [if_neg (pds_ne h0), if_pos (by rw [pds_len]; exact h1)])
      go_enter Try.func13, Try.ntmps13
      go_wp2
      refine bodyPost_ret (results_tct rfl _ _ _ rfl (hld _ _ _ k1)) rfl (Ret.mk (rec_no he (by omega) k1))
    · have hE := hid (show recErr (pds ps) = recScan [] (pds ps) by unfold recErr; rw [if_neg (pds_ne h0), if_neg (by rw [pds_len]; exact h1)])
      have hp0 : 0 < ps.length := by omega
      have k0 := k1
      have n0 : ((ps.length : Int) == 0) = false := beq_eq_false_iff_ne.2 (by omega)
      have n1 : decide ((64 : Int) < ps.length) = false := decide_eq_false (by omega)
      go_enter Try.func13, Try.ntmps13
      go_wp2
      generalize hB : w.heap.size = eb at *
      clear z0 z1 f0 f1
      go_loopw [31] (fun i wr => ∃ j : Nat, j ≤ ps.length ∧ i = .int .i64 j ∧ recErr (pds ps) = recScan ((pds ps).take j) ((pds ps).drop j) ∧ ((ps.take j).map (·.b)).Nodup ∧ SatL wr (cl eb 29 #[.int .i64 0, .slice none 0 0] :: PutsR (.slice a ps.length c) ps :: L)) (fun i _ => ps.length - (intOf i).toNat)
      case atStart => exact ⟨0, by omega, rfl, by rw [hE.out]; rfl, by simp, k0⟩
      case round =>
        clear k1 k0 h hE
        obtain ⟨j, hj, rfl, hsc, hnd, hs1⟩ := hrel
        by_cases hlt : j < ps.length
        · have hrd := PutsR.rdpts (hs1.pull 1 : SatL _ (PutsR _ _ :: _))
          obtain ⟨b, off, rfl, hc⟩ := hrd.1.at (by omega)
          have hp : ps[j]? = some ps[j] := List.getElem?_eq_getElem hlt
          obtain ⟨va, vc, hv, q3, q4⟩ := hrd.2 _ (List.getElem_mem hlt)
          obtain ⟨c1, c2⟩ := pcells_get hp
          have d1 := hc _ _ c1
          have d2 := hc _ _ c2
          rw [← Nat.add_assoc, hv] at d2
          rw [recScan_step (pds_get hp), pds_take] at hsc
          have hsn : (ps.take (j + 1)).map (·.b) = (ps.take j).map (·.b) ++ [ps[j].b] := by rw [List.take_add_one, hp, List.map_append]; rfl
          have k2 := hs1.alloc (.cells #[.int .i64 ps[j].b, .slice va ps[j].d.length vc] 29)
          have hso := fun (w' : World) (L' : List HP) (h : SatL w' L') => sound_ok (b := ps[j].b) (a := va) (c := vc) (d := ps[j].d) rfl (by omega) h
          have htw := fun (w' : World) (P : HP) (h : SatL w' (P :: cl eb 29 #[.int .i64 0, .slice none 0 0] :: PutsR (.slice (some ⟨b, off, none⟩) ps.length c) ps :: L)) => twice_ok (v := .slice (some ⟨b, off, none⟩) (j + 1) c) (ps := ps.take (j + 1)) h (fun w' h' => RdPts.take (PutsR.rdpts (h'.pull 2 : SatL w' (PutsR _ _ :: _))) (by omega))
          generalize hpb : ps[j].b = pb at *
          generalize hpd : ps[j].d = pd at *
          generalize hse : soundE (pb, pd) = e at *
          generalize hpn : pd.length = pn at *
          clear hpd hc c1 c2 hp hv hrd hpn
          by_cases he0 : e = 0
          · subst he0
            rw [if_neg (by simp)] at hsc
            simp only [hsn] at htw
            by_cases hm : pb ∈ (ps.take j).map (·.b)
            · rw [if_pos hm] at hsc
              have He := hid hsc
              have hdn : dupB ((ps.take j).map (·.b) ++ [pb]) = true := by
                refine dupB_yes fun hn => ?_
                rw [List.nodup_append] at hn
                exact hn.2.2 _ hm _ (List.mem_singleton.2 rfl) rfl
              simp only [hdn] at htw
              clear hsc hnd hsn hdn hm
              go_wp2_with (first
                | (go_at_call 42; (with_reducible refine (hso _ _ k2).mono ?_); rintro e w3 ⟨v, rfl, rfl, hs3⟩)
                | (go_at_call 43; (with_reducible refine (htw _ _ hs3).mono ?_); rintro e w4 ⟨v, rfl, rfl, hs4⟩; have k3 : SatL w4 (cl eb _ _ :: _) := hs4.pull 1; have z0 := SatL.cell (v := .int .i64 0) k3 (i := 0) rfl; have z1 := SatL.cell (v := .slice none 0 0) k3 (i := 1) rfl; have f0 := SatL.free k3 0; have f1 := SatL.free k3 1))
              have k4 := SatL.set (SatL.set k3 (i := 0) (.int .i64 0)) (i := 1) (.slice none 0 0)
              refine bodyPost_ret (results_tct rfl _ _ _ rfl (hld _ _ _ k4)) rfl (Ret.mk (rec_no He (by omega) (SatL.tail (SatL.swap k4))))
            · rw [if_neg hm] at hsc
              have Hsc := hid hsc
              have hnn : ((ps.take j).map (·.b) ++ [pb]).Nodup := by
                rw [List.nodup_append]
                refine ⟨hnd, by simp, fun x hx y hy e => ?_⟩
                rw [List.mem_singleton.1 hy] at e
                exact hm (e ▸ hx)
              have hdn : dupB ((ps.take j).map (·.b) ++ [pb]) = false := dupB_no hnn
              simp only [hdn] at htw
              have Hnn := hid hnn
              have Hsn := hid hsn
              clear hsc hnd hsn hdn hm hnn
              go_wp2_with (first
                | (go_at_call 42; (with_reducible refine (hso _ _ k2).mono ?_); rintro e w3 ⟨v, rfl, rfl, hs3⟩)
                | (go_at_call 43; (with_reducible refine (htw _ _ hs3).mono ?_); rintro e w4 ⟨v, rfl, rfl, hs4⟩))
              go_roundw
              case rel => exact ⟨j + 1, by omega, by go_num, Hsc.out, by rw [Hsn.out]; exact Hnn.out, hs4.tail⟩
              case measure => simp [intOf]; omega
          · rw [if_pos he0] at hsc
            have He := hid hsc
            clear hsc htw hnd hsn
            have hel : (e != 0) = true := by simpa using he0
            go_wp2_with (first
              | (go_at_call 42; (with_reducible refine (hso _ _ k2).mono ?_); rintro e w3 ⟨v, rfl, rfl, hs3⟩; have k3 : SatL w3 (cl eb _ _ :: _) := hs3.pull 1; have z0 := SatL.cell (v := .int .i64 0) k3 (i := 0) rfl; have z1 := SatL.cell (v := .slice none 0 0) k3 (i := 1) rfl; have f0 := SatL.free k3 0; have f1 := SatL.free k3 1))
            have k4 := SatL.set (SatL.set k3 (i := 0) (.int .i64 0)) (i := 1) (.slice none 0 0)
            refine bodyPost_ret (results_tct rfl _ _ _ rfl (hld _ _ _ k4)) rfl (Ret.mk (rec_no He he0 (SatL.tail (SatL.swap k4))))
        · obtain rfl : j = ps.length := by omega
          have hfull : (pds ps).take ps.length = pds ps ∧ (pds ps).drop ps.length = [] := ⟨List.take_of_length_le (by rw [pds_len]; omega), List.drop_of_length_le (by rw [pds_len]; omega)⟩
          rw [hfull.2] at hsc
          have He := hid (show recErr (pds ps) = 0 from hsc)
          obtain ⟨g1, g2, g3, g4⟩ := recErr_good He.out
          have G3 := hid g3
          clear hsc hnd hfull g3 g4
          obtain ⟨b, off, rfl, hc⟩ := (PutsR.rdpts (hs1.pull 1 : SatL _ (PutsR _ _ :: _))).1.at hp0
          clear hc
          go_wp2
          clear hB hj hlt n0 n1 h0 h1
          have hpl : ps.length ≤ 64 := by rw [pds_len] at g2; exact g2
          have hU0 := Sl.mk (xs := (((pds ps).length :: ((pds ps).take 0).map (·.1.toNat)).map u64v)) (hs1.alloc (.cells #[.int .u64 ps.length] 22)) (by simp) rfl (by simp)
          go_loopw [10, 55] (fun pv i wr => ∃ j : Nat, j ≤ ps.length ∧ i = .int .i64 j ∧ SatL wr (Sl 22 pv (((pds ps).length :: ((pds ps).take j).map (·.1.toNat)).map u64v) :: cl eb 29 #[.int .i64 0, .slice none 0 0] :: PutsR (.slice (some ⟨b, off, none⟩) ps.length c) ps :: L)) (fun _ i _ => ps.length - (intOf i).toNat)
          case atStart => exact ⟨0, by omega, rfl, hU0⟩
          case round =>
            clear hU0 hs1
            obtain ⟨j, hj, rfl, hs2⟩ := hrel
            by_cases hlt : j < ps.length
            · have hrd := PutsR.rdpts (hs2.pull 2 : SatL _ (PutsR _ _ :: _))
              obtain ⟨b', off', hbo, hc⟩ := hrd.1.at (by omega)
              cases hbo
              have hp : ps[j]? = some ps[j] := List.getElem?_eq_getElem hlt
              obtain ⟨va, vc, hv, q3, q4⟩ := hrd.2 _ (List.getElem_mem hlt)
              obtain ⟨c1, c2⟩ := pcells_get hp
              have d1 := hc _ _ c1
              have d2 := hc _ _ c2
              rw [← Nat.add_assoc, hv] at d2
              have hgd := G3.out _ (List.mem_map.2 ⟨ps[j], List.getElem_mem hlt, rfl⟩)
              obtain ⟨kb, hkb⟩ : ∃ kb : Nat, ps[j].b = kb := ⟨ps[j].b.toNat, by have := hgd.1; simp only at this; omega⟩
              have hsn := hid (show ((pds ps).take (j + 1)).map (·.1.toNat) = ((pds ps).take j).map (·.1.toNat) ++ [kb] by rw [List.take_add_one, pds_get hp, List.map_append]; show _ ++ [ps[j].b.toNat] = _; rw [hkb]; rfl)
              rw [hkb] at d1
              have k2 := (hs2.alloc (.cells #[.int .i64 kb, .slice va ps[j].d.length vc] 29)).swap
              have b1 : ((((pds ps).length :: ((pds ps).take j).map (·.1.toNat)).map u64v).length + 1) * 8 ≤ 140737488355328 := by simp; omega
              have wp : IntKind.u64.wrap (kb : Int) = kb := u64_in kb (by have := hgd.2.1; simp only at this; omega)
              generalize hpn : ps[j].d.length = pn at *
              have b8 : 0 < 8 := by omega
              clear hpn hc c1 c2 hp hv hrd hgd hkb
              go_wp2_with (at_builtin; refine wpList_pushN_sl (nb := wr.heap.size + 1) (by simp) rfl (.tmp 59) (.tmp 63) rfl elem_u64 b8 rfl k2 rfl rfl b1 ?_; intro v' w6 h6)
              go_roundw
              case rel =>
                refine ⟨j + 1, by omega, by go_num, ?_⟩
                rw [hsn.out, ← List.cons_append, List.map_append]
                exact SatL.tail h6.swap
              case measure => simp [intOf]; omega
            · obtain rfl : j = ps.length := by omega
              rw [List.take_of_length_le (by rw [pds_len]; omega)] at hs2
              have hus : (pds ps).length :: (pds ps).map (·.1.toNat) = places (pds ps) := rfl
              rw [hus] at hs2
              have hpu : ∀ u ∈ places (pds ps), u < 4294967296 := by
                intro u hu
                rcases List.mem_cons.1 hu with rfl | hu
                · omega
                · obtain ⟨q, hq, rfl⟩ := List.mem_map.1 hu
                  have := G3.out q hq
                  omega
              have hpun : (places (pds ps)).length ≤ 100 := by simp [places]; omega
              have hbk := block_ok (word := wordH) (y := { data := #[71, 82, 78, 72, 69, 65, 68, 49] }) rfl rfl hs hpu hpun hs2 (fun w' h' => RdU.ofSl h')
              have hset := fun (w' : World) (b off c : Nat) (L' : List HP) (h : SatL w' (SlB 5 (.slice (some ⟨b, off, none⟩) 512 c) (blockB wordH seq (places (pds ps))) :: L')) => set_ok (at_ := 508) (s := crcN (headBody seq (pds ps))) (crcN_lt _) (by omega) h
              simp only [head_set seq (pds ps) g2, show ((508 : Nat) : Int) = 508 from rfl] at hset
              have hcr : ∀ (w' : World) (b off c T2 : Nat) (L' : List HP), SatL w' (SlB 5 (.slice (some ⟨b, off, none⟩) 512 c) (blockB wordH seq (places (pds ps))) :: L') → Calls Try.prog 46 #[.slice (some ⟨w'.heap.size, 0, none⟩) 1 1] (w'.alloc (.cells #[.slice (some ⟨b, off, none⟩) 508 c] T2)) fun e w2 => e = .returned (.int .u32 (crcN (headBody seq (pds ps)) : Nat)) ∧ w'.alloc (.cells #[.slice (some ⟨b, off, none⟩) 508 c] T2) = w2 := by
                intro w' b off c T2 L' h'
                have h2 := h'.alloc (.cells #[.slice (some ⟨b, off, none⟩) 508 c] T2)
                have hrd := (SlB.rd (h2.pull 1 : SatL _ (SlB _ _ _ :: _))).sub (i := 0) (j := 508) (by omega) (by rw [blockB_len rfl hpun]; omega)
                rw [List.drop_zero, head_of seq _ g2] at hrd
                have := crc_ok (RdRows.one (c := 1) h2 hrd (by omega) (by omega))
                rw [show [headBody seq (pds ps)].flatten = headBody seq (pds ps) by simp] at this
                exact this
              have hbl := blockB_len (word := wordH) (seq := seq) rfl hpun
              have Hpun := hid hpun
              clear hpu hpun hus hlt hj
              go_wp2_with (first
                | (go_at_call 44; (with_reducible refine hbk.mono ?_); rintro e w3 ⟨v, rfl, hs3⟩; obtain ⟨ha, hc, rfl, q3, q4⟩ := Sl.valn hs3 (m := 512) (by rw [bvs_len, hbl]); obtain ⟨hb, ho, rfl⟩ := Sl.addr hs3 (by omega); have hcr3 := hcr _ _ _ _ 27 _ hs3; have hset3 := hset _ _ _ _ _ (SatL.swap (hs3.alloc (.cells #[.slice (some ⟨hb, ho, none⟩) 508 hc] 27))))
                | (go_at_call 46; (with_reducible refine hcr3.mono ?_); rintro e w4 ⟨rfl, rfl⟩)
                | (go_at_call 45; (with_reducible refine hset3.mono ?_); rintro e w5 ⟨v, rfl, hs5⟩))
              have hs6 : SatL w5 (SlB 5 (.slice (some ⟨hb, ho, none⟩) 512 hc) (headB seq (pds ps)) :: cl eb 29 #[.int .i64 0, .slice none 0 0] :: PutsR (.slice (some ⟨b, off, none⟩) ps.length c) ps :: L) := SatL.tail (SatL.tail (hs5.bring [1, 2, 0, 3, 4]))
              have ha1 := (hs6.alloc (.cells #[.slice (some ⟨hb, ho, none⟩) 512 hc] 27)).allocN (n := w5.heap.size + 1) (.cells #[.int .i64 0, .slice (some ⟨hb, ho, none⟩) 512 hc] 29) (by simp)
              have ha2 := PutsR.one (ha1.bring [0, 2, 1])
              have ha3 := Sl.mk (xs := [.slice (some ⟨hb, ho, none⟩) 512 hc]) (ha2.pull 1) rfl rfl (by simp)
              have ha4 := ha3.swap
              clear ha1 ha2 ha3 hs3 hs5 hs6 hs2 hset hcr hbl hbk hcr3 hset3
              go_loopw [14, 15, 82] (fun rv ov i wr => ∃ (j : Nat) (qs : List Pt), j ≤ ps.length ∧ i = .int .i64 j ∧ qs.length = j + 1 ∧ pds qs = (recRows seq (pds ps)).take (j + 1) ∧ SatL wr (PutsR ov qs :: Sl 27 rv (qs.map (·.v)) :: cl eb 29 #[.int .i64 0, .slice none 0 0] :: PutsR (.slice (some ⟨b, off, none⟩) ps.length c) ps :: L)) (fun _ _ i _ => ps.length - (intOf i).toNat)
              case atStart => exact ⟨0, _, by omega, rfl, rfl, by simp [recRows], ha4⟩
              case round =>
                clear ha4
                obtain ⟨j, qs, hj, rfl, hql, hq, hs7⟩ := hrel
                by_cases hlt : j < ps.length
                · have hpr := (hs7.pull 3 : SatL _ (PutsR _ _ :: _))
                  have hrd := PutsR.rdpts hpr
                  obtain ⟨b', off', hbo, hc⟩ := hrd.1.at (by omega)
                  cases hbo
                  have hp : ps[j]? = some ps[j] := List.getElem?_eq_getElem hlt
                  obtain ⟨va, vc, hv, q5, q6⟩ := hrd.2 _ (List.getElem_mem hlt)
                  obtain ⟨c1, c2⟩ := pcells_get hp
                  have d1 := hc _ _ c1
                  have d2 := hc _ _ c2
                  rw [← Nat.add_assoc, hv] at d2
                  have hgd := G3.out _ (List.mem_map.2 ⟨ps[j], List.getElem_mem hlt, rfl⟩)
                  have hpn : ps[j].d.length = 512 := hgd.2.2
                  rw [hpn] at d2 q5
                  have hsn := hid (show (recRows seq (pds ps)).take (j + 1 + 1) = (recRows seq (pds ps)).take (j + 1) ++ [(((1 + j : Nat) : Int), ps[j].d)] by
                    rw [List.take_add_one]
                    congr 1
                    unfold recRows
                    rw [List.getElem?_cons_succ, inRow_get (pds_get hp)]
                    rfl)
                  have hcl := fun (w' : World) (P : HP) (h : SatL w' (P :: PutsR u15 qs :: Sl 27 u14 (qs.map (·.v)) :: cl eb 29 #[.int .i64 0, .slice none 0 0] :: PutsR (.slice (some ⟨b, off, none⟩) ps.length c) ps :: L)) => clone_rd (xs := ps[j].d) h (fun w' h' => PutsR.rdb (h'.pull 4 : SatL w' (PutsR _ _ :: _)) (List.getElem_mem hlt)) (by omega)
                  rw [hv, hpn] at hcl
                  have k2 := hs7.alloc (.cells #[.int .i64 ps[j].b, .slice va 512 vc] 29)
                  generalize ps[j].b = pb at *
                  generalize hpd : ps[j].d = pd at *
                  have b1 : ((qs.map (·.v)).length + 1) * 24 ≤ 140737488355328 := by rw [List.length_map]; omega
                  have b2 : (qs.length + 1) * 32 ≤ 140737488355328 := by omega
                  have b8 : 0 < 24 := by omega
                  have b9 : 0 < 32 := by omega
                  have Hq := hid hq
                  have Hql := hid hql
                  have Hpn := hid hpn
                  clear hpn hc c1 c2 hp hv hrd hgd hpr hpd hq hql
                  go_wp2_with (first
                    | (go_at_call 47; (with_reducible refine (hcl _ _ k2).mono ?_); rintro e w7 ⟨v, rfl, h7⟩; obtain ⟨ca, cc, rfl, q7, q8⟩ := Sl.valn h7 (m := 512) (by rw [bvs_len, Hpn.out]); have h7' := SatL.pull h7 3; have t1 : True := trivial)
                    | (have _t := t1; at_builtin; refine wpList_push_sl rfl (.tmp 90) (.tmp 92) rfl elem_rows b8 rfl h7' rfl rfl b1 ?_; intro v8 w8 h8; clear t1; have h9 := sat_PutsR.1 (SatL.pull h8 3); have t2 : True := trivial)
                    | (have _t := t2; at_builtin; refine wpList_pushK_sl rfl rfl (.tmp 94) (.tmp 99) rfl elem_put b9 rfl h9 rfl rfl (by simp [Value.oneCell']) b2 ?_; intro v9 w9 h10; clear t2))
                  go_roundw
                  case rel =>
                    have h11 := PutsL.snoc (h10.bring [0, 1, 3])
                    refine ⟨j + 1, qs ++ [(⟨1 + (j : Int), .slice ca 512 cc, pd⟩ : Pt)], by omega, by go_num, by rw [List.length_append, Hql.out]; rfl, ?_, SatL.tail (by rw [List.map_append]; exact h11.bring [2, 0, 1, 3, 4])⟩
                    rw [hsn.out, pds_snoc, Hq.out]
                    simp
                  case measure => simp [intOf]; omega
                · obtain rfl : j = ps.length := by omega
                  rw [List.take_of_length_le (by unfold recRows; rw [List.length_cons, inRow_len, pds_len]; omega)] at hq
                  have hfl : (qs.map (·.d)).flatten = headB seq (pds ps) ++ ((pds ps).map (·.2)).flatten := by
                    have : qs.map (·.d) = (pds qs).map (·.2) := by rw [List.map_map]; rfl
                    rw [this, hq]
                    unfold recRows
                    rw [List.map_cons, inRow_snd, List.flatten_cons]
                  have hcr := crc_ok (RdRows.ofQs ((sat_PutsR.1 hs7).bring [2, 1, 0, 3, 4]))
                  rw [hfl, show crcN (headB seq (pds ps) ++ ((pds ps).map (·.2)).flatten) = groupCrc seq (pds ps) from rfl] at hcr
                  have hgl := groupCrc_lt seq (pds ps)
                  have w5 := u64_in (groupCrc seq (pds ps)) (by omega)
                  have hbk := block_ok (word := wordT) (y := { data := #[71, 82, 78, 84, 65, 73, 76, 49] }) (us := [groupCrc seq (pds ps)]) rfl rfl hs (by simp; omega) (by simp) (hs7.alloc (.cells #[u64v (groupCrc seq (pds ps))] 22)) (fun w' h' => RdU.ofCl (n := 1) (c := 1) h' rfl rfl (by omega) (by omega))
                  rw [end_of, show endOf seq (groupCrc seq (pds ps)) = endB seq (pds ps) from rfl] at hbk
                  have hel : (endB seq (pds ps)).length = 512 := endOf_len _ _
                  have Hq := hid hq
                  have hld2 := fun (w' : World) (L' : List HP) (b : Nat) (x y : Value) (h : SatL w' (cl b 29 #[x, y] :: L')) => run_loadPut h
                  generalize groupCrc seq (pds ps) = G at *
                  clear hq hfl hlt hj hql hld
                  go_wp2_with (first
                    | (go_at_call 46; (with_reducible refine hcr.mono ?_); rintro e w7 ⟨rfl, rfl⟩)
                    | (go_at_call 44; (with_reducible refine hbk.mono ?_); rintro e w8 ⟨v, rfl, h8⟩; obtain ⟨ea, ec, rfl, q5, q6⟩ := Sl.valn h8 (m := 512) (by rw [bvs_len, hel]); have k3 : SatL w8 (cl eb _ _ :: _) := SatL.pull h8 4; have z0 := SatL.cell (v := .int .i64 0) k3 (i := 0) rfl; have z1 := SatL.cell (v := .slice none 0 0) k3 (i := 1) rfl; have f0 := SatL.free k3 0; have f1 := SatL.free k3 1))
                  have k4 : SatL ((w8.setCell ⟨eb, 0, none⟩ (.int .i64 (1 + ps.length))).setCell ⟨eb, 1, none⟩ (.slice ea 512 ec)) (cl eb 29 #[.int .i64 (1 + ps.length), .slice ea 512 ec] :: SlB 5 (.slice ea 512 ec) (endB seq (pds ps)) :: pt wr.heap.size (.cells #[u64v G] 22) :: PutsR u15 qs :: Sl 27 u14 (qs.map (·.v)) :: PutsR (.slice (some ⟨b, off, none⟩) ps.length c) ps :: L) := SatL.set (SatL.set k3 (i := 0) (.int .i64 (1 + ps.length))) (i := 1) (.slice ea 512 ec)
                  refine bodyPost_ret (results_tct rfl _ _ _ rfl (hld2 _ _ eb (.int .i64 (1 + ps.length)) (.slice ea 512 ec) k4)) rfl ?_
                  refine Ret.mk ?_
                  have hlast : recLast seq (pds ps) = (((1 + ps.length : Nat) : Int), endB seq (pds ps)) := by
                    unfold recLast recEnd
                    rw [if_pos He.out, pds_len]
                  have hout : recOut seq (pds ps) = recRows seq (pds ps) := by unfold recOut; rw [if_pos He.out]
                  refine ⟨u15, .slice ea 512 ec, ?_, ?_⟩
                  · rw [hlast, He.out]
                    simp
                  · rw [hlast, hout]
                    refine sat_PutsL.2 ⟨qs, Hq.out, SatL.tail (SatL.tail (SatL.tail (k4.bring [0, 2, 4, 3, 1, 5])))⟩
end
end Go.Proofs.Ytjjnadlklfegcaa
