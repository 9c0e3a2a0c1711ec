/- RpcStreams: the law's walk. Condition: errors.errorType's cell holds the type's handle. -/
import Derived.Test.YtpecmkkcepnpeaaDoorStrP
import Derived.Test.YtpecmkkcepnpeaaDoorLawLong
namespace Go.Proofs.YtpecmkkcepnpeaaDoor
set_option linter.unusedVariables false
set_option linter.unusedSimpArgs false
open Go.RowKit
section
variable {w : World} {L : List HP}
/-- rows of bytes that came in -/
def InRows (a : Option Addr) (n : Nat) (V : Nat → Value) (D : Nat → List UInt8) (w : World) : Prop :=
  n ≤ 9223372036854775807 ∧ (0 < n → ∃ b o, a = some ⟨b, o, none⟩ ∧ ∀ i, i < n → w.cell? ⟨b, o + i, none⟩ = some (V i)) ∧ ∀ i, i < n → RdV (V i) (D i) w
/-- integers that came in -/
def InInts (a : Option Addr) (n : Nat) (A : Nat → Int) (w : World) : Prop :=
  n ≤ 9223372036854775807 ∧ (0 < n → ∃ b o, a = some ⟨b, o, none⟩ ∧ ∀ i, i < n → w.cell? ⟨b, o + i, none⟩ = some (.int .i64 (A i)))
theorem InRows.old {w0 : World} {a : Option Addr} {n : Nat} {V : Nat → Value} {D : Nat → List UInt8} (h : InRows a n V D w0) : Gives [old w0] (InRows a n V D) := fun w hw => by
  obtain ⟨h1, h2, h3⟩ := h
  refine ⟨h1, fun h0 => ?_, fun i hi => (h3 i hi).old w hw⟩
  obtain ⟨b, o, e, hc⟩ := h2 h0
  exact ⟨b, o, e, fun i hi => hw.oldCell (hc i hi)⟩
theorem InInts.old {w0 : World} {a : Option Addr} {n : Nat} {A : Nat → Int} (h : InInts a n A w0) : Gives [old w0] (InInts a n A) := fun w hw => by
  obtain ⟨h1, h2⟩ := h
  refine ⟨h1, fun h0 => ?_⟩
  obtain ⟨b, o, e, hc⟩ := h2 h0
  exact ⟨b, o, e, fun i hi => hw.oldCell (hc i hi)⟩
/-- s[:j] of what came in, as a run fact -/
theorem RdV.upto {v : Value} {b : List UInt8} {j : Nat} (h : RdV v b w) (hj : j ≤ b.length) : ∃ v', (∀ w', (Instr.sliceAt 27 v none (some (.int .i64 (j : Int))) none).run Tryd.prog w' = .ok v' w') ∧ ∀ w', RdV v b w' → RdV v' (b.take j) w' := by
  rcases Nat.eq_zero_or_pos b.length with h0 | h0
  · obtain rfl : b = [] := List.eq_nil_of_length_eq_zero h0
    obtain rfl : j = 0 := by simpa using hj
    have hu : Tryd.prog.underlying 27 = some (.slice (Tryd.prog.elem 27)) := by kernel_rfl
    rcases h with ⟨rfl, _⟩ | ⟨A, c, rfl, h1, h2, h3⟩
    · refine ⟨.slice none 0 0, fun w' => ?_, fun w' _ => .inl ⟨rfl, rfl⟩⟩
      have hz : (sizeOf (Tryd.prog.elem 27)).run Tryd.prog w' = .ok 1 w' := by kernel_rfl
      rw [run_sliceAt_slice _ _ _ _ _ _ hu, run_slice_h _ _ _ _ _ hu .i64 ((0 : Nat) : Int) (by omega) (by omega), hz]
      rfl
    · refine ⟨.slice (if c = 0 then some A else some (A.add (0 * 1))) 0 c, fun w' => ?_, fun w' _ => .inr ?_⟩
      · have hz : (sizeOf (Tryd.prog.elem 27)).run Tryd.prog w' = .ok 1 w' := by kernel_rfl
        rw [run_sliceAt_slice _ _ _ _ _ _ hu, run_slice_h _ _ _ _ _ hu .i64 ((0 : Nat) : Int) (by omega) (by omega), hz]
        simp only [Result.andThen, sliced, Int.toNat_natCast, Option.map_some, Nat.sub_zero, Nat.sub_self]
      · split
        · exact ⟨A, c, rfl, Nat.zero_le _, h2, fun h => absurd h (by simp)⟩
        · exact ⟨A.add (0 * 1), c, rfl, Nat.zero_le _, h2, fun h => absurd h (by simp)⟩
  · obtain ⟨v', h1, h2⟩ := RdB.upto (h.b h0) hj h0
    exact ⟨v', h1, fun w' h' => RdB.v (h2 w' (h'.b h0))⟩
/-- s[j:] of what came in, as a run fact -/
theorem RdV.from {v : Value} {b : List UInt8} {j : Nat} (h : RdV v b w) (hj : j ≤ b.length) : ∃ v', (∀ w', (Instr.sliceAt 27 v (some (.int .i64 (j : Int))) none none).run Tryd.prog w' = .ok v' w') ∧ ∀ w', RdV v b w' → RdV v' (b.drop j) w' := by
  rcases Nat.eq_zero_or_pos b.length with h0 | h0
  · obtain rfl : b = [] := List.eq_nil_of_length_eq_zero h0
    obtain rfl : j = 0 := by simpa using hj
    have hu : Tryd.prog.underlying 27 = some (.slice (Tryd.prog.elem 27)) := by kernel_rfl
    rcases h with ⟨rfl, _⟩ | ⟨A, c, rfl, h1, h2, h3⟩
    · refine ⟨.slice none 0 0, fun w' => ?_, fun w' _ => .inl ⟨rfl, rfl⟩⟩
      have hz : (sizeOf (Tryd.prog.elem 27)).run Tryd.prog w' = .ok 1 w' := by kernel_rfl
      rw [run_sliceAt_slice _ _ _ _ _ _ hu, run_slice_l _ _ _ _ _ hu .i64 ((0 : Nat) : Int) (by omega) (by omega), hz]
      rfl
    · refine ⟨.slice (if c = 0 then some A else some (A.add (0 * 1))) 0 c, fun w' => ?_, fun w' _ => .inr ?_⟩
      · have hz : (sizeOf (Tryd.prog.elem 27)).run Tryd.prog w' = .ok 1 w' := by kernel_rfl
        rw [run_sliceAt_slice _ _ _ _ _ _ hu, run_slice_l _ _ _ _ _ hu .i64 ((0 : Nat) : Int) (by omega) (by simp), hz]
        simp only [Result.andThen, sliced, Int.toNat_natCast, Option.map_some, Nat.sub_zero, Nat.sub_self, List.length_nil]
      · split
        · exact ⟨A, c, rfl, Nat.zero_le _, h2, fun h => absurd h (by simp)⟩
        · exact ⟨A.add (0 * 1), c, rfl, Nat.zero_le _, h2, fun h => absurd h (by simp)⟩
  · obtain ⟨v', h1, h2⟩ := RdB.from (h.b h0) hj
    exact ⟨v', h1, fun w' h' => RdB.v (h2 w' (h'.b h0))⟩
theorem rows_cat {v : Value} {r1 r2 : List RwB} (h : SatL w (Sl 27 v (r1.map (·.v) ++ r2.map (·.v)) :: big (fun r : RwB => SlB 5 r.v r.d) r1 :: big (fun r : RwB => SlB 5 r.v r.d) r2 :: L)) : SatL w (RowsL v (r1.map (·.d) ++ r2.map (·.d)) :: L) := by
  refine sat_RowsL.2 ⟨r1 ++ r2, by simp, sat_RowsQ.2 ?_⟩
  rw [List.map_append]
  exact SatL.swap (big_append.2 (h.bring [1, 2, 0]))
theorem rows_cells {rs : List RwB} (h : SatL w (big (fun r : RwB => SlB 5 r.v r.d) rs :: L)) : ∀ y ∈ rs.map (·.v), y.oneCell' = true := by
  induction rs with
  | nil => intro y hy; simp at hy
  | cons r rs ih =>
    intro y hy
    have h1 := big_cons.1 h
    rcases List.mem_cons.1 hy with h2 | h2
    · obtain ⟨a, c, e, _, _⟩ := Sl.valn h1 (m := r.d.length) (by rw [bvs_len])
      rw [h2]
      show r.v.oneCell' = true
      rw [e]
      rfl
    · exact ih (h1.tail |> fun h => h) y h2
theorem big_at {f : RwB → HP} : ∀ {rs : List RwB} {L : List HP} {k : Nat} (hk : k < rs.length) (h : SatL w (big f rs :: L)), ∃ L', SatL w (f rs[k] :: L') := by
  intro rs
  induction rs with
  | nil => intro L k hk; simp at hk
  | cons r rs ih =>
    intro L k hk h
    have h1 := big_cons.1 h
    cases k with
    | zero => exact ⟨_, h1⟩
    | succ k => exact ih (by simpa using hk) h1.tail
theorem strF {w0 : World} {rs ws : List RwB} {gb go wb wo wn gc wc k : Nat} (h1 : rs.length = wn) (h2 : ws.length = wn) (hd : rs.map (·.d) = ws.map (·.d)) (hrd : ∀ r ∈ ws, RdV r.v r.d w0 ∧ r.d.length ≤ 2000) (hk : k < wn)
    (h : SatL w [Sl 27 (.slice (some ⟨gb, go, none⟩) wn gc) (rs.map (·.v)), big (fun r : RwB => SlB 5 r.v r.d) rs, Sl 27 (.slice (some ⟨wb, wo, none⟩) wn wc) (ws.map (·.v)), old w0]) :
    w.cell? ⟨gb, go + k, none⟩ = some (rs[k]'(by omega)).v ∧ w.cell? ⟨wb, wo + k, none⟩ = some (ws[k]'(by omega)).v ∧ (convert 27 9 (rs[k]'(by omega)).v).run Tryd.prog w = .ok (.string ⟨(ws[k]'(by omega)).d.toArray⟩) w ∧ (convert 27 9 (ws[k]'(by omega)).v).run Tryd.prog w = .ok (.string ⟨(ws[k]'(by omega)).d.toArray⟩) w ∧ (∃ a n c, (rs[k]'(by omega)).v = .slice a n c) ∧ ∃ a n c, (ws[k]'(by omega)).v = .slice a n c := by
  have hk1 : k < rs.length := by omega
  have hk2 : k < ws.length := by omega
  have e : rs[k].d = ws[k].d := by
    have := congrArg (fun l => l[k]?) hd
    simpa [List.getElem?_map, List.getElem?_eq_getElem hk1, List.getElem?_eq_getElem hk2] using this
  obtain ⟨L', hb⟩ := big_at hk1 (h.pull 1)
  have hrv := (hrd ws[k] (List.getElem_mem hk2)).1.old w (h.tail.tail.tail)
  refine ⟨Sl.cell h (by rw [List.getElem?_map, List.getElem?_eq_getElem hk1]; rfl), Sl.cell (h.pull 2) (by rw [List.getElem?_map, List.getElem?_eq_getElem hk2]; rfl), ?_, RdV.conv hrv, ?_, ?_⟩
  · rw [← e]; exact RdB.conv (SlB.rd hb)
  · obtain ⟨a, c, e2, _, _⟩ := (SlB.rd hb).valn; exact ⟨_, _, _, e2⟩
  · obtain ⟨a, c, e2, _, _⟩ := hrv.valn; exact ⟨_, _, _, e2⟩
theorem recGo_count (f : Nat) : ∀ (r row : List UInt8) (out : List (List UInt8)), (recGo f r row out).out.length ≤ out.length + r.length := by
  induction f with
  | zero => intro r row out; exact Nat.le_add_right _ _
  | succ f ih =>
    intro r row out
    unfold recGo
    have hd : (r.drop (4 + headN r)).length = r.length - (4 + headN r) := List.length_drop
    split
    · split
      · exact Nat.le_add_right _ _
      · split
        · exact Nat.le_add_right _ _
        · split
          · have := ih (r.drop (4 + headN r)) [] (out ++ [row ++ (r.drop 4).take (headN r)])
            rw [List.length_append] at this
            simp only [List.length_cons, List.length_nil] at this
            omega
          · have := ih (r.drop (4 + headN r)) (row ++ (r.drop 4).take (headN r)) out
            omega
    · exact Nat.le_add_right _ _
theorem Fed.count {t : List UInt8} {st : RecS} {got : List (List UInt8)} (h : Fed t st got) : got.length ≤ t.length := by
  have := recGo_count (t.length + 1) t [] []
  have e : recGo (t.length + 1) t [] [] = ⟨st.rest, st.row, got, false⟩ := h.2
  rw [e] at this
  simpa using this
theorem minXY {x y z : Nat} (h : z = min x y) : ∀ w : World, (Builtin.min_ #[3, 3] 3 #[.int .i64 (x : Int), .int .i64 (y : Int)]).run Tryd.prog w = .ok (.int .i64 (z : Int)) w := fun w => by
  have e : (Builtin.min_ #[3, 3] 3 #[.int .i64 (x : Int), .int .i64 (y : Int)]).run Tryd.prog w = .ok (.int .i64 (if (y : Int) < x then (y : Int) else (x : Int))) w := rfl
  rw [e]
  by_cases h2 : y < x
  · rw [if_pos (by omega), show z = y by omega]
  · rw [if_neg (by omega), show z = x by omega]
set_option maxRecDepth 100000 in
set_option maxHeartbeats 8000000 in
theorem streams_walk {la pa ia : Option Addr} {ln lc pn pc inn ic : Nat} {V : Nat → Value} {D : Nat → List UInt8} {PA IA : Nat → Int} (w : World) (hl : InRows la ln V D w) (hp : InInts pa pn PA w) (hi : InInts ia inn IA w) (hH : HndW w) :
    Calls Tryd.prog 5 #[.slice la ln lc, .slice pa pn pc, .slice ia inn ic] w (Ret fun q w' => q = .bool true ∧ SatL w' [old w]) := by
  have kK := known_ok (sat_old w) hH.old
  have HLw := hid hl
  have HL := hid hl.old
  have HP := hid hp.old
  have HI := hid hi.old
  have hln := hl.1
  clear hl hp hi hH
  go_enter Tryd.func5, Tryd.ntmps5
  go_upto_block 0 with (first
    | (go_at_call 12; (with_reducible refine kK.mono ?_); rintro ev w1 ⟨q, rfl, rfl, hs⟩; clear kK))
  go_cut [7, 8, 9, 10, 11] from 21 to 91 (fun s wt _ _ _ wx => ∃ (S : List UInt8) (ws : List RwB), Hid (Good S (ws.map (·.d)) ∧ S.length ≤ 30000 ∧ ws.length ≤ 12 ∧ ∀ r ∈ ws, RdV r.v r.d w ∧ r.d.length ≤ 2000) ∧ SatL wx [SlB 5 s S, Sl 27 wt (ws.map (·.v)), old w])
  case first =>
    have h2 := Sl_nil (T := 5) (Sl_nil (T := 27) hs)
    go_wp2
    go_loopw [7, 8, 9] (fun s wt i wr => ∃ (j : Nat) (S : List UInt8) (ws : List RwB), j ≤ ln ∧ j ≤ 12 ∧ i = .int .i64 (j : Int) ∧ Hid (Good S (ws.map (·.d)) ∧ S.length ≤ j * 2500 ∧ ws.length ≤ j ∧ ∀ r ∈ ws, RdV r.v r.d w ∧ r.d.length ≤ 2000) ∧ SatL wr [SlB 5 s S, Sl 27 wt (ws.map (·.v)), old w]) (fun _ _ i _ => 12 - (intOf i).toNat)
    case atStart => exact ⟨0, [], [], by omega, by omega, rfl, hid ⟨Good.nil, by simp, by simp, by simp⟩, h2⟩
    case round =>
      clear h2 hs
      obtain ⟨j, S, ws, hj, hj12, rfl, HG, h3⟩ := hrel
      by_cases hlt : j < ln ∧ j < 12
      · obtain ⟨_, hrow, hrd⟩ := HL.out wr h3.tail.tail
        obtain ⟨lb, lo, rfl, hcell⟩ := hrow (by omega)
        have c0 := hcell j hlt.1
        have hd := hrd j hlt.1
        have hwd := hid (show RdV (V j) (D j) w from HLw.out.2.2 j hlt.1)
        obtain ⟨dn, hdn⟩ : ∃ dn, (D j).length = dn := ⟨_, rfl⟩
        obtain ⟨da, dc, hV, hd1, hd2⟩ := hd.valn
        rw [hdn] at hV hd1
        rw [hV] at c0 hd hwd
        have t1 : ((j : Int) < (ln : Int)) = True := by simp; omega
        have t2 : ((j : Int) < 12) = True := by simp; omega
        have t3 : (j < ln) = True := by simp; omega
        have t4 : (j < 12) = True := by simp; omega
        have hw1 : IntKind.i64.wrap ((j : Int) + 1) = ((j + 1 : Nat) : Int) := by rw [IntWalk.i64_in _ (by omega)]; omega
        have hz1 : (j : Int) < (ln : Int) := by omega
        have hj1 : j + 1 ≤ ln ∧ j + 1 ≤ 12 := by omega
        have Hj1 := hid hj1
        have HC0 := hid (fun (w' : World) (h' : SatL w' [old w]) => (show w'.cell? ⟨lb, lo + j, none⟩ = some (.slice da dn dc) from by
          obtain ⟨_, hrow', _⟩ := HL.out w' h'
          obtain ⟨lb2, lo2, e, hc'⟩ := hrow' (by omega)
          cases e
          rw [hc' j hlt.1, hV]))
        clear hrow hrd hcell hV hlt hj1
        obtain ⟨DJ, hDJ⟩ : ∃ DJ, D j = DJ := ⟨_, rfl⟩
        rw [hDJ] at hd hwd hdn
        clear hDJ
        by_cases hbig : 2000 < dn
        · have u1 : ((2000 : Int) < (dn : Int)) = True := by simp; omega
          have u2 : (2000 < dn) = True := by simp; omega
          have H3 := hid h3
          clear h3 hd hdn hbig hd1 hd2
          go_wp2
          go_roundw
          case rel => exact ⟨j + 1, S, ws, Hj1.out.1, Hj1.out.2, by go_num, hid ⟨HG.out.1, by have := HG.out.2.1; omega, by have := HG.out.2.2.1; omega, HG.out.2.2.2⟩, H3.out⟩
          case measure => simp [intOf]; have := Hj1.out; omega
        · have u1 : ((2000 : Int) < (dn : Int)) = False := by simp; omega
          have u2 : (2000 < dn) = False := by simp; omega
          obtain ⟨sn, hsn⟩ : ∃ sn, S.length = sn := ⟨_, rfl⟩
          obtain ⟨wn, hwn⟩ : ∃ wn, ws.length = wn := ⟨_, rfl⟩
          obtain ⟨sa, sc, rfl, _, _⟩ := Sl.valn h3 (m := sn) (by rw [bvs_len]; exact hsn)
          obtain ⟨wa, wc, rfl, _, _⟩ := Sl.valn h3.tail (m := wn) (by rw [List.length_map]; exact hwn)
          obtain ⟨wn1, hwn1⟩ : ∃ wn1, wn1 = wn + 1 := ⟨_, rfl⟩
          have h4 := h3.swap
          have hwq : ((ws.map (·.v)).length + 1) * 24 ≤ 140737488355328 := by rw [List.length_map]; have := HG.out.2.2.1; omega
          have hbig2 : DJ.length ≤ 2000 := by omega
          have Hwn1 := hid (show (ws.map (·.v) ++ [Value.slice da dn dc]).length = wn1 by rw [List.length_append, List.length_map, hwn, hwn1]; rfl)
          have HG2 := hid (show Good S (ws.map (·.d)) ∧ S.length ≤ j * 2500 ∧ ws.length ≤ j ∧ (∀ r ∈ ws, RdV r.v r.d w ∧ r.d.length ≤ 2000) ∧ j ≤ 12 from ⟨HG.out.1, HG.out.2.1, HG.out.2.2.1, HG.out.2.2.2, hj12⟩)
          have Hbig := hid hbig2
          have Hdn := hid hdn
          have Hsn := hid hsn
          have hsj : sn ≤ 30000 := by have := HG.out.2.1; omega
          have Hsj := hid hsj
          clear h3 hd hbig hbig2 hwn hwn1 hdn hsn hsj hd1 hd2
          go_upto_region 10 with (at_builtin; refine wpList_push_sl rfl (.tmp 37) (.tmp 42) rfl elem_rowb (by omega) rfl h4 rfl rfl hwq ?_; intro v8 w8 h5; obtain ⟨wa2, wc2, rfl, _, _⟩ := Sl.valn h5 (m := wn1) Hwn1.out)
          have c1 := HC0.out _ h5.tail.tail
          by_cases hin : inn = 0
          · have t5 : ((inn : Int) == 0) = true := by simp [hin]
            have km := mark_ok (b := DJ) (v := .slice da dn dc) (by have := Hbig.out; omega) h5 (fun w' h' => RdV.old hwd.out w' h'.tail.tail)
            obtain ⟨mn, hmn⟩ : ∃ mn, (markB DJ).length = mn := ⟨_, rfl⟩
            have Hmn := hid hmn
            have hmn2 : mn ≤ 2004 := by rw [← hmn, markB_len]; have := Hbig.out; omega
            have hbb : (sn + mn) * 1 ≤ 140737488355328 := by have := Hsj.out; omega
            have h63 : sn + mn ≤ maxLen := by unfold maxLen; have := Hsj.out; omega
            obtain ⟨s2, hs2⟩ : ∃ s2, s2 = sn + mn := ⟨_, rfl⟩
            have hsl : (S ++ markB DJ).length = s2 := by rw [List.length_append, Hsn.out, hmn, hs2]
            have Hsl := hid hsl
            have Hs2 := hid hs2
            have Hmn2 := hid hmn2
            clear h4 h5 hin hmn hmn2 hs2 hsl
            go_wp2_with (first
              | (go_at_call 18; (with_reducible refine km.mono ?_); rintro ev w9 ⟨q, rfl, h6⟩; obtain ⟨ma, mc, rfl, _, _⟩ := Sl.valn h6 (m := mn) (by rw [bvs_len]; exact Hmn.out); have hK := Sl.toK (n := sn) (h6.pull 2) (by rw [bvs_len]; exact Hsn.out); have hx := SrcOk.ofRdB (SlB.rd h6); rw [Hmn.out] at hx; clear km)
              | (at_builtin; refine wpList_append_sl rfl (.tmp 47) (.tmp 52) rfl elem_byte rfl hK rfl hx (bvs_one _) hbb h63 ?_; intro v10 w10 h7 _; have h8 := Sl.ofK h7; rw [← bvs_append] at h8; obtain ⟨sa2, sc2, rfl, _, _⟩ := Sl.valn h8 (m := s2) (by rw [bvs_len]; exact Hsl.out); clear hK hx h6 h7))
            have h9 := (h8.swap).tail
            have H9 := hid h9
            clear h8 h9
            go_roundw
            case rel =>
              refine ⟨j + 1, S ++ markB DJ, ws ++ [⟨.slice da dn dc, DJ⟩], Hj1.out.1, Hj1.out.2, by go_num, hid ⟨?_, ?_, ?_, ?_⟩, ?_⟩
              · rw [List.map_append]; exact HG2.out.1.mark (by have := Hbig.out; omega)
              · rw [Hsl.out, Hs2.out]; have := HG2.out.2.1; have := Hsn.out; have := Hmn2.out; omega
              · rw [List.length_append]; have := HG2.out.2.2.1; simp only [List.length_cons, List.length_nil]; omega
              · intro r hr
                rcases List.mem_append.1 hr with h | h
                · exact HG2.out.2.2.2.1 r h
                · obtain rfl := List.mem_singleton.1 h; exact ⟨hwd.out, Hbig.out⟩
              · rw [List.map_append]; exact H9.out
            case measure => simp [intOf]; have := Hj1.out; omega
          · have t5 : ((inn : Int) == 0) = false := by simp; omega
            have hn1 : ¬ inn = 0 := hin
            have hn2 : ¬ (inn : Int) = 0 := by omega
            obtain ⟨_, hirow⟩ := HI.out w8 h5.tail.tail
            obtain ⟨ib, io, rfl, hic⟩ := hirow (by omega)
            obtain ⟨x, hx⟩ : ∃ x, x = j % inn := ⟨_, rfl⟩
            have hxl : x < inn := by rw [hx]; exact Nat.mod_lt _ (by omega)
            have hxt : Int.tmod (j : Int) (inn : Int) = (x : Int) := by rw [hx]; exact (Int.ofNat_tmod j inn).symm
            have hxe : (j : Int) % (inn : Int) = (x : Int) := by rw [hx]; exact (Int.natCast_emod j inn).symm
            have c2 := hic x hxl
            have hxl2 : (x : Int) < (inn : Int) := by omega
            have hx0 : (0 : Int) ≤ (x : Int) := by omega
            obtain ⟨d1, hd1⟩ : ∃ d1, d1 = dn + 1 := ⟨_, rfl⟩
            have hdw : IntKind.i64.wrap ((dn : Int) + 1) = (d1 : Int) := by have := Hbig.out; have := Hdn.out; rw [IntWalk.i64_in _ (by omega)]; omega
            obtain ⟨k, hk, kW⟩ := within_nat (IA x) (d1 : Int) (by have := Hbig.out; have := Hdn.out; omega)
            have hkd : k ≤ dn := by omega
            have Hx := hid hx
            have Hkd := hid hkd
            have HIc := hid (fun (w' : World) (h' : SatL w' [old w]) => (show w'.cell? ⟨ib, io + x, none⟩ = some (.int .i64 (IA x)) from by
              obtain ⟨_, hr'⟩ := HI.out w' h'
              obtain ⟨b2, o2, e, hc'⟩ := hr' (by omega)
              cases e
              exact hc' x hxl))
            clear hirow hic hx hd1 hk hkd h4 hin
            go_upto_region 12 with fail
            refine GoE.start (fun w' => w'.cell? ⟨ib, io + x, none⟩ = some (.int .i64 (IA x)) ∧ w'.cell? ⟨lb, lo + j, none⟩ = some (.slice da dn dc)) 14 15 rfl (by kernel_rfl) ?_
            have h6 := sat_drew.2 h5
            generalize w8.drew = w9 at h6 ⊢
            have S0 : w9.cell? ⟨ib, io + x, none⟩ = some (.int .i64 (IA x)) ∧ w9.cell? ⟨lb, lo + j, none⟩ = some (.slice da dn dc) := ⟨HIc.out _ h6.tail.tail, HC0.out _ h6.tail.tail⟩
            clear c0 c1 c2 h5
            refine GoE.take (i := 0) (v := ?_) rfl (by decide) (by kernel_rfl) (by kernel_rfl) (by kernel_rfl) (by kernel_rfl) (fun _ _ _ h => h) (by rfl) ?_ (by assumption) ?_
            rotate_left
            · intro w hSw; (try dsimp only at hSw); go_simp; try (with_reducible rfl)
            try simp only [Act.put, List.setIfInBounds_toArray, List.set_cons_zero, List.set_cons_succ]
            refine GoE.take (i := 1) (v := ?_) rfl (by decide) (by kernel_rfl) (by kernel_rfl) (by kernel_rfl) (by kernel_rfl) (fun _ _ _ h => h) (by rfl) ?_ (by assumption) ?_
            rotate_left
            · intro w hSw; (try dsimp only at hSw); go_simp; try (with_reducible rfl)
            try simp only [Act.put, List.setIfInBounds_toArray, List.set_cons_zero, List.set_cons_succ]
            refine GoE.take (i := 2) (v := ?_) rfl (by decide) (by kernel_rfl) (by kernel_rfl) (by kernel_rfl) (by kernel_rfl) (fun _ _ _ h => h) (by rfl) ?_ (by assumption) ?_
            rotate_left
            · intro w hSw; (try dsimp only at hSw); go_simp; try (with_reducible rfl)
            try simp only [Act.put, List.setIfInBounds_toArray, List.set_cons_zero, List.set_cons_succ]
            refine GoE.take (i := 3) (v := ?_) rfl (by decide) (by kernel_rfl) (by kernel_rfl) (by kernel_rfl) (by kernel_rfl) (fun _ _ _ h => h) (by rfl) ?_ (by assumption) ?_
            rotate_left
            · intro w hSw; (try dsimp only at hSw); go_simp; try (with_reducible rfl)
            try simp only [Act.put, List.setIfInBounds_toArray, List.set_cons_zero, List.set_cons_succ]
            refine GoE.take (i := 4) (v := ?_) rfl (by decide) (by kernel_rfl) (by kernel_rfl) (by kernel_rfl) (by kernel_rfl) (fun _ _ _ h => h) (by rfl) ?_ (by assumption) ?_
            rotate_left
            · intro w hSw; (try dsimp only at hSw); go_simp; try (with_reducible rfl)
            try simp only [Act.put, List.setIfInBounds_toArray, List.set_cons_zero, List.set_cons_succ]
            refine GoE.take (i := 5) (v := ?_) rfl (by decide) (by kernel_rfl) (by kernel_rfl) (by kernel_rfl) (by kernel_rfl) (fun _ _ _ h => h) (by rfl) ?_ (by assumption) ?_
            rotate_left
            · intro w hSw; (try dsimp only at hSw); go_simp; try (with_reducible rfl)
            try simp only [Act.put, List.setIfInBounds_toArray, List.set_cons_zero, List.set_cons_succ]
            refine GoE.take (i := 6) (v := ?_) rfl (by decide) (by kernel_rfl) (by kernel_rfl) (by kernel_rfl) (by kernel_rfl) (fun _ _ _ h => h) (by rfl) ?_ (by assumption) ?_
            rotate_left
            · intro w hSw; (try dsimp only at hSw); go_simp; try (with_reducible rfl)
            try simp only [Act.put, List.setIfInBounds_toArray, List.set_cons_zero, List.set_cons_succ]
            refine GoE.take (i := 7) (v := ?_) rfl (by decide) (by kernel_rfl) (by kernel_rfl) (by kernel_rfl) (by kernel_rfl) (fun _ _ _ h => h) (by rfl) ?_ (by assumption) ?_
            rotate_left
            · intro w hSw; (try dsimp only at hSw); go_simp; try (with_reducible rfl)
            try simp only [Act.put, List.setIfInBounds_toArray, List.set_cons_zero, List.set_cons_succ]
            refine GoE.take (i := 8) (v := ?_) rfl (by decide) (by kernel_rfl) (by kernel_rfl) (by kernel_rfl) (by kernel_rfl) (fun _ _ _ h => h) (by rfl) ?_ (by assumption) ?_
            rotate_left
            · intro w hSw; (try dsimp only at hSw); go_simp; try (with_reducible rfl)
            try simp only [Act.put, List.setIfInBounds_toArray, List.set_cons_zero, List.set_cons_succ]
            refine GoE.take (i := 9) (v := ?_) rfl (by decide) (by kernel_rfl) (by kernel_rfl) (by kernel_rfl) (by kernel_rfl) (fun _ _ _ h => h) (by rfl) ?_ (by assumption) ?_
            rotate_left
            · intro w hSw; (try dsimp only at hSw); go_simp; try (with_reducible rfl)
            try simp only [Act.put, List.setIfInBounds_toArray, List.set_cons_zero, List.set_cons_succ]
            refine GoE.take (i := 10) (v := ?_) rfl (by decide) (by kernel_rfl) (by kernel_rfl) (by kernel_rfl) (by kernel_rfl) (fun _ _ _ h => h) (by rfl) ?_ (by assumption) ?_
            rotate_left
            · intro w hSw; (try dsimp only at hSw); go_simp; try (with_reducible rfl)
            try simp only [Act.put, List.setIfInBounds_toArray, List.set_cons_zero, List.set_cons_succ]
            refine GoE.take (i := 11) (v := ?_) rfl (by decide) (by kernel_rfl) (by kernel_rfl) (by kernel_rfl) (by kernel_rfl) (fun _ _ _ h => h) (by rfl) ?_ (by assumption) ?_
            rotate_left
            · intro w hSw; (try dsimp only at hSw); go_simp; try (with_reducible rfl)
            try simp only [Act.put, List.setIfInBounds_toArray, List.set_cons_zero, List.set_cons_succ]
            refine GoE.take (i := 12) (v := ?_) rfl (by decide) (by kernel_rfl) (by kernel_rfl) (by kernel_rfl) (by kernel_rfl) (fun _ _ _ h => h) (by rfl) ?_ (by assumption) ?_
            rotate_left
            · intro w hSw; (try dsimp only at hSw); go_simp; try (with_reducible rfl)
            try simp only [Act.put, List.setIfInBounds_toArray, List.set_cons_zero, List.set_cons_succ]
            refine GoE.one (i := 13) rfl (by kernel_rfl) (fun K hK => ?_)
            go_simp
            go_at_call 19
            (with_reducible refine ((kW _)).mono ?_)
            rintro e wz ⟨rfl, rfl⟩
            go_wp2_with fail
            refine hK.out _ _ (fun _ => S0) ?_
            clear hK K
            try simp only [Act.put, List.setIfInBounds_toArray, List.set_cons_zero, List.set_cons_succ]
            refine GoE.one (i := 14) rfl (by kernel_rfl) (fun K hK => ?_)
            go_simp
            refine hK.out _ _ (fun h => absurd rfl h) ?_
            clear hK K
            try simp only [Act.put, List.setIfInBounds_toArray, List.set_cons_zero, List.set_cons_succ]
            refine GoE.done (by kernel_rfl) ?_
            have c1 := S0.2
            have hkl : k ≤ DJ.length := by rw [Hdn.out]; exact Hkd.out
            obtain ⟨uv, huv, guv⟩ := (hwd.out).upto hkl
            obtain ⟨fv, hfv, gfv⟩ := (hwd.out).from hkl
            obtain ⟨ua, uc, rfl, _, _⟩ := (guv w hwd.out).valn
            obtain ⟨fa, fc, rfl, _, _⟩ := (gfv w hwd.out).valn
            obtain ⟨Y, hY⟩ : ∃ Y, DJ.take k = Y := ⟨_, rfl⟩
            obtain ⟨Zz, hZ⟩ : ∃ Zz, DJ.drop k = Zz := ⟨_, rfl⟩
            have hYZ : Y ++ Zz = DJ := by rw [← hY, ← hZ]; exact List.take_append_drop _ _
            have hyl : Y.length + Zz.length = DJ.length := by rw [← hYZ, List.length_append]
            rw [hY] at huv guv
            rw [hZ] at hfv gfv
            obtain ⟨yn, hyn⟩ : ∃ yn, Y.length = yn := ⟨_, rfl⟩
            obtain ⟨zn, hzn⟩ : ∃ zn, Zz.length = zn := ⟨_, rfl⟩
            rw [hyn] at huv guv
            rw [hzn] at hfv gfv
            have hyz2 : yn + zn ≤ 2000 := by have := Hbig.out; omega
            have km1 := mark_ok (b := Y) (by omega) h6 (fun w' h' => guv w' (RdV.old hwd.out w' h'.tail.tail))
            obtain ⟨q0, t0, hq0, hmk, hpc⟩ := mark_first (x := Y) (by omega)
            obtain ⟨ml, hml⟩ : ∃ ml, (markB Y).length = ml := ⟨_, rfl⟩
            have hml0 : 0 < ml := by rw [← hml, markB_len]; omega
            have hml1 : (0 : Int) < (ml : Int) := by omega
            have hml2 : ml = 4 + yn := by rw [← hml, markB_len, hyn]
            have hand := u8_and127 q0 hq0
            obtain ⟨x0, hx0'⟩ : ∃ x0, x0 = 128 + q0 := ⟨_, rfl⟩
            rw [← hx0'] at hand
            have Hx0 := hid hx0'
            have Hml := hid hml
            have Hmk := hid hmk
            have Hpc := hid hpc
            have HYZ := hid hYZ
            have Hyz2 := hid hyz2
            have Hml2 := hid hml2
            have Hyn := hid hyn
            have Hzn := hid hzn
            have Hgfv := hid gfv
            clear hx0' hml hmk hpc hYZ hyz2 hml2 hyn hzn hY hZ hyl hkl guv gfv kW S0 h6
            go_upto_region 14 with (go_at_call 18; (with_reducible refine km1.mono ?_); rintro ev w10 ⟨q, rfl, h7⟩; obtain ⟨ma, mc, rfl, _, _⟩ := Sl.valn h7 (m := ml) (by rw [bvs_len]; exact Hml.out); obtain ⟨mb, mo, rfl⟩ := Sl.addr h7 (by omega); clear km1)
            have h8 : SatL w10 (SlB 5 (.slice (some ⟨mb, mo, none⟩) ml mc) (byteOf (128 + q0) :: t0) :: _) := Hmk.out ▸ h7
            have m0 := Sl.cell h8 (i := 0) (x := bv (byteOf (128 + q0))) rfl
            rw [Nat.add_zero, bv_byteOf, Nat.mod_eq_of_lt (by omega), ← Hx0.out] at m0
            have f0 := Sl.free h8 mo
            have h9 := Sl.set h8 (i := 0) (by simp) (.int .u8 (q0 : Int))
            rw [Nat.add_zero, show (bvs (byteOf (128 + q0) :: t0)).set 0 (.int .u8 (q0 : Int)) = bvs (pieceB Y) by rw [Hpc.out]; show Value.int .u8 (q0 : Int) :: bvs t0 = bv (byteOf q0) :: bvs t0; rw [bv_byteOf, Nat.mod_eq_of_lt (by omega)]] at h9
            have H9 := hid h9
            clear h7 h8 h9 c1
            go_upto_region 15 with fail
            have h10 := H9.out
            generalize w10.setCell ⟨mb, mo, none⟩ (.int .u8 (q0 : Int)) = w11 at h10 ⊢
            obtain ⟨s2, hs2⟩ : ∃ s2, s2 = sn + ml := ⟨_, rfl⟩
            obtain ⟨m2, hm2⟩ : ∃ m2, m2 = 4 + zn := ⟨_, rfl⟩
            obtain ⟨s3, hs3⟩ : ∃ s3, s3 = s2 + m2 := ⟨_, rfl⟩
            have hsj := Hsj.out
            have hyz2 := Hyz2.out
            have hml2 := Hml2.out
            have hpl : (pieceB Y).length = ml := by rw [pieceB_len, Hyn.out, hml2]
            have hmz : (markB Zz).length = m2 := by rw [markB_len, Hzn.out, hm2]
            have hbb1 : (sn + ml) * 1 ≤ 140737488355328 := by omega
            have hmx1 : sn + ml ≤ maxLen := by unfold maxLen; omega
            have hbb2 : (s2 + m2) * 1 ≤ 140737488355328 := by omega
            have hmx2 : s2 + m2 ≤ maxLen := by unfold maxLen; omega
            have hl1 : (S ++ pieceB Y).length = s2 := by rw [List.length_append, Hsn.out, hpl, hs2]
            have hl2 : (S ++ pieceB Y ++ markB Zz).length = s3 := by rw [List.length_append, hl1, hmz, hs3]
            have hs3b : s3 ≤ sn + 2500 := by omega
            have hzl : Zz.length ≤ 100000000 := by rw [Hzn.out]; omega
            have Hpl := hid hpl
            have Hmz := hid hmz
            have Hl1 := hid hl1
            have Hl2 := hid hl2
            have Hs3b := hid hs3b
            clear hs2 hm2 hs3 hsj hyz2 hml2 hpl hmz hl1 hl2 hs3b m0 f0 H9 huv hand
            refine GoE.start (fun w' => w'.cell? ⟨lb, lo + j, none⟩ = some (.slice da dn dc)) 11 12 rfl (by kernel_rfl) ?_
            have h11 := sat_drew.2 h10
            generalize w11.drew = w12 at h11 ⊢
            have S0 := HC0.out _ h11.tail.tail.tail
            clear h10
            refine GoE.take (i := 0) (v := ?_) rfl (by decide) (by kernel_rfl) (by kernel_rfl) (by kernel_rfl) (by kernel_rfl) (fun _ _ _ h => h) (by rfl) ?_ (by assumption) ?_
            rotate_left
            · intro w hSw; (try dsimp only at hSw); go_simp; try (with_reducible rfl)
            try simp only [Act.put, List.setIfInBounds_toArray, List.set_cons_zero, List.set_cons_succ]
            refine GoE.take (i := 1) (v := ?_) rfl (by decide) (by kernel_rfl) (by kernel_rfl) (by kernel_rfl) (by kernel_rfl) (fun _ _ _ h => h) (by rfl) ?_ (by assumption) ?_
            rotate_left
            · intro w hSw; (try dsimp only at hSw); go_simp; try (with_reducible rfl)
            try simp only [Act.put, List.setIfInBounds_toArray, List.set_cons_zero, List.set_cons_succ]
            refine GoE.take (i := 3) (v := ?_) rfl (by decide) (by kernel_rfl) (by kernel_rfl) (by kernel_rfl) (by kernel_rfl) (fun _ _ _ h => h) (by rfl) ?_ (by assumption) ?_
            rotate_left
            · intro w hSw; (try dsimp only at hSw); go_simp; try (with_reducible rfl)
            try simp only [Act.put, List.setIfInBounds_toArray, List.set_cons_zero, List.set_cons_succ]
            refine GoE.take (i := 4) (v := ?_) rfl (by decide) (by kernel_rfl) (by kernel_rfl) (by kernel_rfl) (by kernel_rfl) (fun _ _ _ h => h) (by rfl) ?_ (by assumption) ?_
            rotate_left
            · intro w hSw; (try dsimp only at hSw); go_simp; try (with_reducible rfl)
            try simp only [Act.put, List.setIfInBounds_toArray, List.set_cons_zero, List.set_cons_succ]
            refine GoE.take (i := 5) (v := ?_) rfl (by decide) (by kernel_rfl) (by kernel_rfl) (by kernel_rfl) (by kernel_rfl) (fun _ _ _ h => h) (by rfl) ?_ (by assumption) ?_
            rotate_left
            · intro w hSw; (try dsimp only at hSw); go_simp; try (with_reducible rfl)
            try simp only [Act.put, List.setIfInBounds_toArray, List.set_cons_zero, List.set_cons_succ]
            refine GoE.take (i := 6) (v := ?_) rfl (by decide) (by kernel_rfl) (by kernel_rfl) (by kernel_rfl) (by kernel_rfl) (fun _ _ _ h => h) (by rfl) ?_ (by assumption) ?_
            rotate_left
            · intro w hSw; (try dsimp only at hSw); go_simp; try (with_reducible rfl)
            try simp only [Act.put, List.setIfInBounds_toArray, List.set_cons_zero, List.set_cons_succ]
            refine GoE.take (i := 7) (v := ?_) rfl (by decide) (by kernel_rfl) (by kernel_rfl) (by kernel_rfl) (by kernel_rfl) (fun _ _ _ h => h) (by rfl) ?_ (by assumption) ?_
            rotate_left
            · intro w hSw; (try dsimp only at hSw); go_simp; try (with_reducible rfl)
            try simp only [Act.put, List.setIfInBounds_toArray, List.set_cons_zero, List.set_cons_succ]
            refine GoE.take (i := 8) (v := ?_) rfl (by decide) (by kernel_rfl) (by kernel_rfl) (by kernel_rfl) (by kernel_rfl) (fun _ _ _ h => h) (by rfl) ?_ (by assumption) ?_
            rotate_left
            · intro w hSw; (try dsimp only at hSw); go_simp; try (with_reducible rfl)
            try simp only [Act.put, List.setIfInBounds_toArray, List.set_cons_zero, List.set_cons_succ]
            refine GoE.one (i := 2) rfl (by kernel_rfl) (fun K hKK => ?_)
            have hK := Sl.toK (n := sn) (h11.pull 2) (by rw [bvs_len]; exact Hsn.out)
            have hx := SrcOk.ofRdB (SlB.rd h11)
            rw [Hpl.out] at hx
            refine step_append_sl rfl (.tmp 81) (.tmp 82) rfl elem_byte rfl hK rfl hx (bvs_one _) hbb1 hmx1 ?_
            intro v13 w13 h12 _
            have h13 := Sl.ofK h12
            rw [← bvs_append] at h13
            obtain ⟨sa2, sc2, rfl, _, _⟩ := Sl.valn h13 (m := s2) (by rw [bvs_len]; exact Hl1.out)
            have S1 := HC0.out _ h13.tail.tail.tail
            refine hKK.out _ _ (fun _ => S1) ?_
            have km2 := mark_ok (b := Zz) (v := .slice fa zn fc) hzl h13 (fun w' h' => Hgfv.out w' (RdV.old hwd.out w' h'.tail.tail.tail))
            clear hKK K hK hx h12 h11 S0
            try simp only [Act.put, List.setIfInBounds_toArray, List.set_cons_zero, List.set_cons_succ]
            refine GoE.one (i := 9) rfl (by kernel_rfl) (fun K hK => ?_)
            go_simp
            go_at_call 18
            (with_reducible refine (km2).mono ?_)
            rintro e w14 ⟨q, rfl, h14⟩; obtain ⟨m2a, m2c, rfl, _, _⟩ := Sl.valn h14 (m := m2) (by rw [bvs_len]; exact Hmz.out); have S2 := HC0.out _ h14.tail.tail.tail.tail
            go_wp2_with fail
            refine hK.out _ _ (fun _ => S2) ?_
            clear hK K
            try simp only [Act.put, List.setIfInBounds_toArray, List.set_cons_zero, List.set_cons_succ]
            refine GoE.one (i := 10) rfl (by kernel_rfl) (fun K hKK => ?_)
            have hK := Sl.toK (n := s2) (h14.pull 1) (by rw [bvs_len]; exact Hl1.out)
            have hx := SrcOk.ofRdB (SlB.rd h14)
            rw [Hmz.out] at hx
            refine step_append_sl rfl (.tmp 83) (.tmp 90) rfl elem_byte rfl hK rfl hx (bvs_one _) hbb2 hmx2 ?_
            intro v15 w15 h15 _
            have h16 := Sl.ofK h15
            rw [← bvs_append] at h16
            obtain ⟨sa3, sc3, rfl, _, _⟩ := Sl.valn h16 (m := s3) (by rw [bvs_len]; exact Hl2.out)
            have S3 := HC0.out _ h16.tail.tail.tail.tail
            refine hKK.out _ _ (fun _ => S3) ?_
            clear hKK K hK hx h15 h14 h13 S1 S2 km2
            try simp only [Act.put, List.setIfInBounds_toArray, List.set_cons_zero, List.set_cons_succ]
            refine GoE.one (i := 11) rfl (by kernel_rfl) (fun K hK => ?_)
            go_simp
            refine hK.out _ _ (fun h => absurd rfl h) ?_
            clear hK K
            try simp only [Act.put, List.setIfInBounds_toArray, List.set_cons_zero, List.set_cons_succ]
            refine GoE.done (by kernel_rfl) ?_
            have H16 := hid (((h16.bring [1, 2]).tail).tail)
            clear h16 S3
            go_wp2_with fail
            go_roundw
            case rel =>
              refine ⟨j + 1, S ++ pieceB Y ++ markB Zz, ws ++ [⟨.slice da dn dc, DJ⟩], Hj1.out.1, Hj1.out.2, by go_num, hid ⟨?_, ?_, ?_, ?_⟩, ?_⟩
              · rw [List.map_append]
                have := HG2.out.1.two (y := Y) (z := Zz) (by rw [← List.length_append, HYZ.out]; have := Hbig.out; omega)
                rw [HYZ.out] at this
                exact this
              · rw [Hl2.out]; have := HG2.out.2.1; have := Hsn.out; have := Hs3b.out; omega
              · rw [List.length_append]; have := HG2.out.2.2.1; simp only [List.length_cons, List.length_nil]; omega
              · intro r hr
                rcases List.mem_append.1 hr with h | h
                · exact HG2.out.2.2.2.1 r h
                · obtain rfl := List.mem_singleton.1 h; exact ⟨hwd.out, Hbig.out⟩
              · rw [List.map_append]; exact H16.out
            case measure => simp [intOf]; have := Hj1.out; omega
      · have H3 := hid h3
        have hG := hid (show Good S (ws.map (·.d)) ∧ S.length ≤ 30000 ∧ ws.length ≤ 12 ∧ ∀ r ∈ ws, RdV r.v r.d w ∧ r.d.length ≤ 2000 from ⟨HG.out.1, by have := HG.out.2.1; omega, by have := HG.out.2.2.1; omega, HG.out.2.2.2⟩)
        clear h3
        by_cases hj2 : j < ln
        · have t1 : ((j : Int) < (ln : Int)) = True := by simp; omega
          have t2 : ((j : Int) < 12) = False := by simp; omega
          have t3 : (j < ln) = True := by simp; omega
          have t4 : (j < 12) = False := by simp; omega
          clear hlt hj2
          go_wp2_with fail
          go_meet
          exact ⟨S, ws, hG, H3.out⟩
        · have t1 : ((j : Int) < (ln : Int)) = False := by simp; omega
          have t3 : (j < ln) = False := by simp; omega
          clear hlt hj2
          go_wp2_with fail
          go_meet
          exact ⟨S, ws, hG, H3.out⟩
  case rest =>
    obtain ⟨S, ws, HG, h3⟩ := hcut
    obtain ⟨sn, hsn⟩ : ∃ sn, S.length = sn := ⟨_, rfl⟩
    obtain ⟨wn, hwn⟩ : ∃ wn, ws.length = wn := ⟨_, rfl⟩
    obtain ⟨sa, sc, rfl, _, _⟩ := Sl.valn h3 (m := sn) (by rw [bvs_len]; exact hsn)
    obtain ⟨wa, wc0, rfl, _, _⟩ := Sl.valn h3.tail (m := wn) (by rw [List.length_map]; exact hwn)
    have Hsn := hid hsn
    have Hwn := hid hwn
    have hsn3 : sn ≤ 30000 := by have := HG.out.2.1; omega
    have kN := newrecords_ok h3
    clear hs hsn hwn
    go_upto_block 2 with (go_at_call 15; (with_reducible refine kN.mono ?_); rintro ev w2 ⟨q, rfl, rb, rfl, h4⟩; clear kN)
    clear h3
    go_cut [7, 13, 14, 15, 16, 17] from 95 to 131 (fun _ gt _ _ _ _ wx => SatL wx [RowsL gt (ws.map (·.d)), Sl 27 (.slice wa wn wc0) (ws.map (·.v)), old w])
    case first =>
      have h5 := ((RowsL_nil h4).bring [1, 0])
      go_wp2
      go_loopw [7, 13, 14] (fun s gt i wr => ∃ (p I : Nat) (st : RecS) (got : List (List UInt8)) (a : Option Addr) (n c : Nat), p + n = sn ∧ I ≤ p ∧ s = .slice a n c ∧ i = .int .i64 (I : Int) ∧ Hid (Fed (S.take p) st got ∧ ∀ w', RdB (.slice sa sn sc) S w' → RdB (.slice a n c) (S.drop p) w') ∧ SatL wr [RecR rb st, RowsL gt got, SlB 5 (.slice sa sn sc) S, Sl 27 (.slice wa wn wc0) (ws.map (·.v)), old w]) (fun s _ _ _ => match s with | .slice _ n _ => n | _ => 0)
      case atStart => exact ⟨0, 0, RecS.new, [], sa, sn, sc, by omega, by omega, rfl, rfl, hid ⟨Fed.nil, fun w' h' => h'⟩, h5⟩
      case round =>
        clear h4 h5
        obtain ⟨p, I, st, got, a, n, c, hpn, hI, rfl, rfl, HF, h6⟩ := hrel
        by_cases hn : 0 < n
        · have t1 : ((0 : Int) < (n : Int)) = True := by simp; omega
          have t2 : (0 < n) = True := by simp; omega
          have Hpn := hid hpn
          have HI2 := hid hI
          have Hn := hid hn
          have hI3 : I ≤ 30000 := by omega
          have hwI : IntKind.i64.wrap ((I : Int) + 1) = ((I + 1 : Nat) : Int) := by rw [IntWalk.i64_in _ (by omega)]; omega
          have HI3 := hid hI3
          clear hpn hI hn hI3
          go_upto_if 102 with fail
          go_cut [15] from 102 to 111 (fun nv wx => ∃ m : Nat, 1 ≤ m ∧ m ≤ 600 ∧ nv = .int .i64 (m : Int) ∧ wx = wr)
          case first =>
            by_cases hp0 : pn = 0
            · have u0 : decide (0 < pn) = false := by simp; omega
              rw [u0]
              have Hp0 := hid hp0
              clear hp0
              go_wp2_with fail
              go_meet
              exact ⟨1, by omega, by omega, rfl, rfl⟩
            · have u0 : decide (0 < pn) = true := by simp; omega
              rw [u0]
              have hn1 : ¬ pn = 0 := hp0
              have hn2 : ¬ (pn : Int) = 0 := by omega
              have hn3 : ((pn : Int) == 0) = false := by simp; omega
              obtain ⟨_, hirow⟩ := HP.out wr h6.tail.tail.tail.tail
              obtain ⟨ib, io, rfl, hic⟩ := hirow (by omega)
              obtain ⟨x, hx⟩ : ∃ x, x = I % pn := ⟨_, rfl⟩
              have hxl : x < pn := by rw [hx]; exact Nat.mod_lt _ (by omega)
              have hxt : Int.tmod (I : Int) (pn : Int) = (x : Int) := by rw [hx]; exact (Int.ofNat_tmod I pn).symm
              have hxe : (I : Int) % (pn : Int) = (x : Int) := by rw [hx]; exact (Int.natCast_emod I pn).symm
              have c2 := hic x hxl
              have hxl2 : (x : Int) < (pn : Int) := by omega
              have hx0 : (0 : Int) ≤ (x : Int) := by omega
              obtain ⟨k, hk, kW⟩ := within_nat (PA x) 600 (by omega)
              obtain ⟨m, hm⟩ : ∃ m, m = 1 + k := ⟨_, rfl⟩
              have hwm : IntKind.i64.wrap (1 + (k : Int)) = (m : Int) := by rw [IntWalk.i64_in _ (by omega)]; omega
              have hmb : 1 ≤ m ∧ m ≤ 600 := by omega
              have Hmb := hid hmb
              clear hirow hic hx hk hm hmb hp0
              go_wp2_with (go_at_call 19; (with_reducible refine (kW _).mono ?_); rintro ev wz ⟨rfl, rfl⟩)
              go_meet
              exact ⟨m, Hmb.out.1, Hmb.out.2, rfl, rfl⟩
          case rest =>
            obtain ⟨m, hm1, hm2, rfl, hwx⟩ := hcut
            rw [hwx]
            clear hwx
            obtain ⟨x, hx⟩ : ∃ x, x = min m n := ⟨_, rfl⟩
            have hmin := minXY hx
            have hxn : 1 ≤ x ∧ x ≤ n := by have := Hn.out; omega
            obtain ⟨gl, hgl⟩ : ∃ gl, got.length = gl := ⟨_, rfl⟩
            obtain ⟨ga, gc, rfl⟩ := rows_val (h6.pull 1) hgl
            have hdl : (S.drop p).length = n := by rw [List.length_drop, Hsn.out]; have := Hpn.out; omega
            have hrS := HF.out.2 wr (SlB.rd (h6.pull 2))
            obtain ⟨uv, huv, guv⟩ := hrS.upto (j := x) (by omega) (by omega)
            obtain ⟨fv, hfv, gfv⟩ := hrS.from (i := x) (by omega)
            obtain ⟨ua, uc, rfl, _, _⟩ := (guv wr hrS).valn
            obtain ⟨fa, fc, rfl, _, _⟩ := (gfv wr hrS).valn
            obtain ⟨Ch, hCh⟩ : ∃ Ch, (S.drop p).take x = Ch := ⟨_, rfl⟩
            have hcl : Ch.length = x := by rw [← hCh, List.length_take]; omega
            have hrl : ((S.drop p).drop x).length = n - x := by rw [List.length_drop, hdl]
            rw [hCh, hcl] at huv
            rw [hCh] at guv
            rw [hcl] at guv
            rw [hrl] at hfv gfv
            obtain ⟨n2, hn2⟩ : ∃ n2, n2 = n - x := ⟨_, rfl⟩
            rw [← hn2] at hfv gfv
            have hst : S = S.take p ++ Ch ++ (S.drop p).drop x := by rw [← hCh, List.append_assoc, List.take_append_drop, List.take_append_drop]
            have htp : S.take (p + x) = S.take p ++ Ch := by rw [← hCh, List.take_add]
            have hroom := HF.out.1.room
            obtain ⟨hE, hFd⟩ := HF.out.1.add (c := Ch) (R := (S.drop p).drop x) (W := ws.map (·.d)) (by rw [← hst]; exact HG.out.1)
            have ka := add_ok (s := st) (b := Ch) (v := .slice ua x uc) (by have := hroom.2; rw [List.length_take] at this; have := Hpn.out; omega) hroom.1 h6 (fun w' h' => RdB.v (guv w' (HF.out.2 w' (SlB.rd (h'.pull 1)))))
            obtain ⟨O, hO⟩ : ∃ O, (st.add Ch).1 = O := ⟨_, rfl⟩
            obtain ⟨st2, hst2⟩ : ∃ st2, (st.add Ch).2.2 = st2 := ⟨_, rfl⟩
            have hadd : st.add Ch = (O, 0, st2) := by rw [← hO, ← hst2, ← hE]
            rw [hadd] at ka hFd
            dsimp only at hFd
            rw [← htp] at hFd
            have HFd := hid hFd
            have Hgfv := hid gfv
            have Hxn := hid hxn
            have Hn2 := hid hn2
            have Hgl := hid hgl
            have hn2b : p + x + n2 = sn := by have := Hpn.out; omega
            have Hn2b := hid hn2b
            have hollen : gl + O.length ≤ 100000 := by
              have h1 := hFd.count
              rw [List.length_append, hgl, List.length_take, Hsn.out] at h1
              omega
            have Hol := hid hollen
            clear hx hxn hgl hdl hrS guv gfv hCh hcl hrl hn2 hst htp hroom hE hFd hO hst2 hadd h6 hn2b hollen hm1 hm2
            go_upto_region 30 with (go_at_call 16; (with_reducible refine ka.mono ?_); rintro ev w5 ⟨q, rfl, ov, rfl, h7⟩; obtain ⟨oa, oc, rfl⟩ := rows_val h7 (n := O.length) rfl; clear ka)
            obtain ⟨ol, hol⟩ : ∃ ol, O.length = ol := ⟨_, rfl⟩
            obtain ⟨tl, htl⟩ : ∃ tl, tl = gl + ol := ⟨_, rfl⟩
            rw [hol] at h7 Hol ⊢
            obtain ⟨rs2, hrs2, h8⟩ := sat_RowsL.1 h7
            obtain ⟨rs1, hrs1, h9⟩ := sat_RowsL.1 (h8.pull 2)
            have h10 := sat_RowsQ.1 h9
            have h11 := sat_RowsQ.1 (h10.pull 2)
            have hl2 : rs2.length = ol := by rw [← hol, ← hrs2, List.length_map]
            have hl1 : rs1.length = gl := by rw [← Hgl.out, ← hrs1, List.length_map]
            have hcells := rows_cells (h11.pull 1)
            have hK := Sl.toK (n := gl) (h11.pull 2) (by rw [List.length_map, hl1]; try omega)
            have hx := SrcOk.ofSl elem_rowb.under h11
            rw [List.length_map, hl2] at hx
            have hbb : (gl + ol) * 24 ≤ 140737488355328 := by have := Hol.out; omega
            have h63 : gl + ol ≤ maxLen := by unfold maxLen; have := Hol.out; omega
            have Hl3 := hid (show (rs1.map (·.v) ++ rs2.map (·.v)).length = tl by rw [List.length_append, List.length_map, List.length_map, hl1, hl2, htl])
            have Hrs1 := hid hrs1
            have Hrs2 := hid hrs2
            clear h7 h8 h9 h10 h11 hl1 hl2 hol htl hrs1 hrs2 hmin huv
            go_wp2_with (at_builtin; refine wpList_append_sl rfl (.tmp 126) (.tmp 127) rfl elem_rowb rfl hK rfl hx hcells hbb h63 ?_; intro v9 w9 h12 _; have h13 := Sl.ofK h12; obtain ⟨na, nc, rfl, _, _⟩ := Sl.valn h13 (m := tl) Hl3.out; clear hK hx h12)
            have h14 := rows_cat (h13.bring [0, 3, 2])
            rw [Hrs1.out, Hrs2.out] at h14
            have H14 := hid ((h14.bring [1]).tail.swap)
            clear h14 h13 hcells
            go_roundw
            case rel =>
              refine ⟨p + x, I + 1, st2, got ++ O, fa, n2, fc, Hn2b.out, by have := HI2.out; have := Hxn.out; omega, rfl, by go_num, hid ⟨HFd.out, fun w' h' => ?_⟩, H14.out⟩
              have := Hgfv.out w' (HF.out.2 w' h')
              rwa [List.drop_drop] at this
            case measure => have := Hn2.out; have := Hxn.out; simp; omega
        · obtain rfl : n = 0 := by omega
          have hgot : got = ws.map (·.d) := by
            have h1 := HF.out.1
            rw [show p = S.length by rw [Hsn.out]; omega, List.take_length] at h1
            exact h1.done HG.out.1
          have H7 := hid (show SatL wr [RowsL u13 (ws.map (·.d)), Sl 27 (.slice wa wn wc0) (ws.map (·.v)), old w] from by
            rw [← hgot]
            exact (h6.bring [0, 2]).tail.tail)
          clear hgot h6 hn hpn
          go_wp2_with fail
          go_meet
          exact H7.out
    case rest =>
      obtain ⟨rs, hrs, h6⟩ := sat_RowsL.1 hcut
      have h7 := sat_RowsQ.1 h6
      have hl1 : rs.length = wn := by rw [← Hwn.out]; have := congrArg List.length hrs; simpa using this
      obtain ⟨ga, gc, rfl, _, _⟩ := Sl.valn h7 (m := wn) (by rw [List.length_map]; exact hl1)
      have Hl1 := hid hl1
      have Hrs := hid hrs
      clear hcut h6 h4 hl1 hrs
      go_upto_block 4 with fail
      go_wp2_with fail
      go_loopw [18] (fun i wr => ∃ k : Nat, k ≤ wn ∧ i = .int .i64 k ∧ SatL wr [Sl 27 (.slice ga wn gc) (rs.map (·.v)), big (fun r : RwB => SlB 5 r.v r.d) rs, Sl 27 (.slice wa wn wc0) (ws.map (·.v)), old w]) (fun i _ => wn - (intOf i).toNat)
      case atStart => exact ⟨0, by omega, rfl, h7⟩
      case round =>
        clear h7
        obtain ⟨k, hk, rfl, hwr⟩ := hrel
        by_cases hlt : k < wn
        · obtain ⟨gb, go, rfl⟩ := Sl.addr hwr (by omega)
          obtain ⟨wb, wo, rfl⟩ := Sl.addr (hwr.pull 2) (by omega)
          have hall := fun (w' : World) h' => strF (w := w') (gb := gb) (go := go) (gc := gc) (wb := wb) (wo := wo) (wc := wc0) Hl1.out Hwn.out Hrs.out HG.out.2.2.2 hlt h'
          obtain ⟨y1, y2, y3, y4, ⟨xa, xn, xc, ex⟩, ⟨ya, yn, yc, ey⟩⟩ := hall wr hwr
          have v3 := fun m => (hall (wr.drewN m) (sat_drewM.2 hwr)).2.2.1
          have v4 := fun m => (hall (wr.drewN m) (sat_drewM.2 hwr)).2.2.2.1
          rw [ex] at y1 y3
          rw [ey] at y2 y4
          simp only [ex] at v3
          simp only [ey] at v4
          generalize (⟨(ws[k]'(by have := Hwn.out; omega)).d.toArray⟩ : ByteArray) = SB at *
          have hlt3 : (k : Int) < wn := by omega
          have hw1 : IntKind.i64.wrap ((k : Int) + 1) = ((k + 1 : Nat) : Int) := by rw [IntWalk.i64_in _ (by omega)]; omega
          have Hwr := hid hwr
          clear hwr hall ex ey
          go_wp2
          go_quiet (fail)
          go_wp2
          go_roundw
          case rel => exact ⟨k + 1, by omega, by go_num, sat_drewM.2 Hwr.out⟩
          case measure => simp [intOf]; omega
        · obtain rfl : k = wn := by omega
          have Hold := hid (hwr.tail.tail.tail : SatL wr [old w])
          clear hwr
          go_wp2
          go_ret
          exact Ret.mk ⟨rfl, Hold.out⟩
end
end Go.Proofs.YtpecmkkcepnpeaaDoor
