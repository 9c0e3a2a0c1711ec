/- rpc: NewRecords, Records.Add. No condition beside the sizes. -/
import Derived.Test.YtpecmkkcepnpeaaDoorRpcR
import Derived.Test.YtpecmkkcepnpeaaDoorRecP
import Derived.Test.YtpecmkkcepnpeaaDoorRecB
namespace Go.Proofs.YtpecmkkcepnpeaaDoor
set_option linter.unusedVariables false
set_option linter.unusedSimpArgs false
open Go.RowKit
structure RwB where
  v : Value
  d : List UInt8
/-- rows of bytes that are owned, each by itself -/
def RowsQ (v : Value) (rs : List RwB) : HP := sep [Sl 27 v (rs.map (·.v)), big (fun r : RwB => SlB 5 r.v r.d) rs]
def RowsL (v : Value) (l : List (List UInt8)) : HP := ex fun rs : List RwB => sep [pur (rs.map (·.d) = l), RowsQ v rs]
def RecR (rb : Nat) (s : RecS) : HP := ex fun q : Value × Value => sep [cl rb 85 #[q.1, q.2, .bool s.long], SlB 5 q.1 s.rest, SlB 5 q.2 s.row]
section
variable {w : World} {L : List HP} {rb : Nat} {s : RecS}
theorem sat_RowsQ {v : Value} {rs : List RwB} : SatL w (RowsQ v rs :: L) ↔ SatL w (Sl 27 v (rs.map (·.v)) :: big (fun r : RwB => SlB 5 r.v r.d) rs :: L) := by
  simp only [RowsQ, sat_sep, List.cons_append, List.nil_append]
theorem sat_RowsL {v : Value} {l : List (List UInt8)} : SatL w (RowsL v l :: L) ↔ ∃ rs : List RwB, rs.map (·.d) = l ∧ SatL w (RowsQ v rs :: L) := by
  simp only [RowsL, sat_ex, sat_sep, List.cons_append, List.nil_append, sat_pur]
theorem RowsL_nil (h : SatL w L) : SatL w (RowsL (.slice none 0 0) [] :: L) := sat_RowsL.2 ⟨[], rfl, sat_RowsQ.2 (Sl_nil (big_nil.2 h))⟩
theorem sat_RecR : SatL w (RecR rb s :: L) ↔ ∃ v u, SatL w (cl rb 85 #[v, u, .bool s.long] :: SlB 5 v s.rest :: SlB 5 u s.row :: L) := by
  simp only [RecR, sat_ex, sat_sep, List.cons_append, List.nil_append, Prod.exists]
theorem elem_rowb : ElemOk Tryd.prog 36 27 1 24 [Value.slice none 0 0] := .of (z := .slice none 0 0) (by kernel_rfl) (by kernel_rfl) rfl rfl (by decide) (by simp [Value.oneCell'])
theorem newrecords_ok (h : SatL w L) : Calls Tryd.prog 15 #[] w (Ret fun v w' => ∃ rb, v = .pointer (some ⟨rb, 0, none⟩) ∧ SatL w' (RecR rb RecS.new :: L)) := by
  go_enter Tryd.func15, Tryd.ntmps15
  go_wp2
  go_ret
  exact Ret.mk ⟨_, rfl, sat_RecR.2 ⟨.slice none 0 0, .slice none 0 0, (Sl_nil (T := 5) (Sl_nil (T := 5) (h.alloc (.cells #[.slice none 0 0, .slice none 0 0, .bool false] 85)))).pull 2⟩⟩
theorem rows_push {v' rv : Value} {rs : List RwB} {d : List UInt8} (h : SatL w (Sl 27 v' (rs.map (·.v) ++ [rv]) :: big (fun r : RwB => SlB 5 r.v r.d) rs :: SlB 5 rv d :: L)) : SatL w (RowsL v' (rs.map (·.d) ++ [d]) :: L) := by
  refine sat_RowsL.2 ⟨rs ++ [⟨rv, d⟩], by simp, sat_RowsQ.2 ?_⟩
  have h1 : SatL w (SlB 5 rv d :: Sl 27 v' (rs.map (·.v) ++ [rv]) :: big (fun r : RwB => SlB 5 r.v r.d) rs :: L) := h.pull 2
  have h2 : SatL w (big (fun r : RwB => SlB 5 r.v r.d) [⟨rv, d⟩] :: Sl 27 v' (rs.map (·.v) ++ [rv]) :: big (fun r : RwB => SlB 5 r.v r.d) rs :: L) := big_cons.2 (SatL.swap (big_nil.2 h1))
  have h3 := h2.bring [2, 0]
  have h4 : SatL w (big (fun r : RwB => SlB 5 r.v r.d) (rs ++ [⟨rv, d⟩]) :: Sl 27 v' (rs.map (·.v) ++ [rv]) :: L) := big_append.2 h3
  have h5 := h4.swap
  rw [List.map_append]
  exact h5
/-- what Add hands back -/
def AddPost (L : List HP) (rb : Nat) (q : List (List UInt8) × Int × RecS) (v : Value) (w : World) : Prop := ∃ ov, v = .tuple #[ov, .int .i64 q.2.1] ∧ SatL w (RowsL ov q.1 :: RecR rb q.2.2 :: L)
set_option maxRecDepth 100000 in
set_option maxHeartbeats 4000000 in
theorem add_ok {v : Value} {b : List UInt8} (hb : s.rest.length + b.length ≤ 100000000) (hr : s.row.length ≤ 16384) (h : SatL w (RecR rb s :: L)) (g : Gives L (RdV v b)) :
    Calls Tryd.prog 16 #[.pointer (some ⟨rb, 0, none⟩), v] w (Ret (AddPost L rb (s.add b))) := by
  obtain ⟨a, c, rfl, g1, g2⟩ := (g w h.tail).valn
  obtain ⟨rest, row, long⟩ := s
  obtain ⟨v0, v1, h0⟩ := sat_RecR.1 h
  dsimp only at h0 hb hr
  have x0 := SatL.cell (h0 : SatL w (cl _ _ _ :: _)) (i := 0) (v := v0) rfl
  have hK := Sl.toK (n := rest.length) h0.swap (by simp)
  have hx := SrcOk.ofRdV (g w h.tail)
  have hbb : (rest.length + b.length) * 1 ≤ 140737488355328 := by omega
  have h63 : rest.length + b.length ≤ maxLen := by unfold maxLen; omega
  obtain ⟨bl, hbl⟩ : ∃ bl, (rest ++ b).length = bl := ⟨_, rfl⟩
  have Hbl := hid hbl
  clear g h h0 hbl
  go_enter Tryd.func16, Tryd.ntmps16
  go_upto_block 0 with (first
    | (at_builtin; refine wpList_append_sl rfl (.tmp 17) (.tmp 18) rfl elem_byte rfl hK rfl hx (bvs_one b) hbb h63 ?_; intro v2 w2 h2 _; have h3 := Sl.ofK h2; rw [← bvs_append] at h3; obtain ⟨ba, bc, rfl, _, _⟩ := Sl.valn h3 (m := bl) (by rw [bvs_len]; exact Hbl.out); have h4 := h3.swap; have f0 := SatL.free (h4 : SatL w2 (cl _ _ _ :: _)) 0; have y0 := SatL.cell (h4 : SatL w2 (cl _ _ _ :: _)) (i := 0) (v := v0) rfl; have h5 := SatL.set (h4 : SatL w2 (cl _ _ _ :: _)) (i := 0) (.slice ba bl bc); have H5 := hid h5; clear h2 h3 h4 h5))
  have h6 := H5.out
  generalize w2.setCell ⟨rb, 0, none⟩ (.slice ba bl bc) = w3 at h6 ⊢
  generalize hB : rest ++ b = B at *
  have hBl : B.length = bl := Hbl.out
  have hbl2 : bl ≤ 100000000 := by rw [← hBl, ← hB, List.length_append]; omega
  have h7 : SatL w3 (cl rb 85 #[.slice ba bl bc, v1, .bool long] :: SlB 5 (.slice ba bl bc) B :: SlB 5 v1 row :: L) := h6
  have HBl := hid hBl
  clear x0 hK hx hbb h63 f0 y0 H5 h6 hBl g1 g2
  obtain ⟨Q, hQ⟩ : ∃ Q, recQ B row [] = Q := ⟨_, rfl⟩
  have HQ := hid hQ
  have HB := hid hB
  clear hQ hB Hbl
  go_cut [6, 7, 8, 9, 10, 11] from 23 to 110 (fun o at_ _ _ _ _ wx => ∃ (k : Nat) (row' : List UInt8) (outs : List (List UInt8)) (v1' : Value) (lg : Bool), k ≤ bl ∧ at_ = .int .i64 (k : Int) ∧ Hid ((long = true → lg = true) ∧ (long = false → Q = ⟨B.drop k, row', outs, lg⟩)) ∧ SatL wx (cl rb 85 #[.slice ba bl bc, v1', .bool lg] :: SlB 5 (.slice ba bl bc) B :: SlB 5 v1' row' :: RowsL o outs :: L))
  case first =>
    cases long with
    | true =>
      have h8 := (RowsL_nil h7).bring [1, 2, 3]
      have c2 := SatL.cell (h8 : SatL _ (cl _ _ _ :: _)) (i := 2) (v := .bool true) rfl
      have H8 := hid h8
      clear h7 h8
      go_wp2
      refine wp_loop_rounds 1 ?_
      rw [rounds_succ]
      go_wp2_with fail
      go_meet
      exact ⟨0, row, [], v1, true, by omega, rfl, hid ⟨fun _ => rfl, fun h => by cases h⟩, H8.out⟩
    | false =>
      have h8 := (RowsL_nil h7).bring [1, 2, 3]
      clear h7
      go_wp2
      go_loopw [6, 7] (fun o at_ wr => ∃ (k : Nat) (row' : List UInt8) (outs : List (List UInt8)) (v1' : Value), k ≤ bl ∧ at_ = .int .i64 (k : Int) ∧ row'.length ≤ 16384 ∧ outs.length ≤ k ∧ Hid (recQ (B.drop k) row' outs = Q) ∧ SatL wr (cl rb 85 #[.slice ba bl bc, v1', .bool false] :: SlB 5 (.slice ba bl bc) B :: SlB 5 v1' row' :: RowsL o outs :: L)) (fun _ at_ _ => bl - (intOf at_).toNat)
      case atStart => exact ⟨0, row, [], v1, by omega, rfl, hr, by simp, HQ, h8⟩
      case round =>
        obtain ⟨k, R, outs, u1, hk, rfl, hR, ho, HQ1, hs⟩ := hrel
        have c2 := SatL.cell (hs : SatL _ (cl _ _ _ :: _)) (i := 2) (v := .bool false) rfl
        have c0 := SatL.cell (hs : SatL _ (cl _ _ _ :: _)) (i := 0) (v := .slice ba bl bc) rfl
        obtain ⟨m, hm⟩ : ∃ m, bl = k + m := ⟨bl - k, by omega⟩
        have hdl : (B.drop k).length = m := by rw [List.length_drop, HBl.out]; omega
        have hw0 : IntKind.i64.wrap ((bl : Int) - (k : Int)) = (m : Int) := by rw [IntWalk.i64_in _ (by omega)]; omega
        by_cases hm4 : 4 ≤ m
        · have t1 : (4 ≤ m) = True := by simp; omega
          have t2 : ((4 : Int) ≤ (m : Int)) = True := by simp; omega
          have hV := beN_lt ((B.drop k).take 4)
          have hVl : ((B.drop k).take 4).length = 4 := by rw [List.length_take]; omega
          rw [hVl] at hV
          have kb := be_in (v := .slice ba bl bc) (k := 4) (at_ := k) (.inr (.inr (.inl rfl))) (by have := HBl.out; omega) (SlB.rd hs.tail)
          obtain ⟨V, hVe⟩ : ∃ V, headV (B.drop k) = V := ⟨_, rfl⟩
          have hVe2 : beN ((B.drop k).take 4) = V := hVe
          rw [hVe2] at kb hV
          obtain ⟨N, hNe⟩ : ∃ N, N = V % 2147483648 := ⟨_, rfl⟩
          have hNN : headN (B.drop k) = N := by unfold headN; rw [hVe, hNe]
          have a1 := head_andNot V (by omega)
          have a2 := head_and V (by omega)
          rw [← hNe] at a1
          have hNl : N < 2147483648 := by omega
          have hw1 : IntKind.i64.wrap (N : Int) = (N : Int) := IntWalk.i64_in _ (by omega)
          obtain ⟨rl, hrl⟩ : ∃ rl, R.length = rl := ⟨_, rfl⟩
          obtain ⟨ra, rc, rfl, _, _⟩ := Sl.valn (hs.pull 2) (m := rl) (by simp [hrl])
          have c1 := SatL.cell (hs : SatL _ (cl _ _ _ :: _)) (i := 1) (v := .slice ra rl rc) rfl
          obtain ⟨rn, hrn⟩ : ∃ rn, rn = rl + N := ⟨_, rfl⟩
          have hw2 : IntKind.i64.wrap ((rl : Int) + (N : Int)) = (rn : Int) := by rw [IntWalk.i64_in _ (by omega)]; omega
          obtain ⟨s4, hs4⟩ : ∃ s4, s4 = k + 4 := ⟨_, rfl⟩
          have hw3 : IntKind.i64.wrap ((k : Int) + 4) = (s4 : Int) := by rw [IntWalk.i64_in _ (by omega)]; omega
          obtain ⟨E, hE⟩ : ∃ E, E = s4 + N := ⟨_, rfl⟩
          have hw4 : IntKind.i64.wrap ((s4 : Int) + (N : Int)) = (E : Int) := by rw [IntWalk.i64_in _ (by omega)]; omega
          rw [show ((4 : Nat) : Int) = 4 from rfl] at kb
          have Hs := hid hs
          have HVe := hid hVe
          have HNN := hid hNN
          have Hdl := hid hdl
          have Hrl := hid hrl
          have Hrn := hid hrn
          have HEE := hid hE
          have Hs4 := hid hs4
          have Hm := hid hm
          clear hVe hVe2 hVl hNe hdl hNN hs hrl
          by_cases hlong : 16384 < rn
          · have t3 : (16384 < rn) = True := by simp; omega
            have t4 : ((16384 : Int) < (rn : Int)) = True := by simp; omega
            have HQ2 := hid (show Q = ⟨B.drop k, R, outs, true⟩ by rw [← HQ1.out]; exact recQ_long (by have := Hdl.out; omega) (by have := Hrl.out; rw [HNN.out]; omega))
            have f2 := SatL.free (Hs.out : SatL _ (cl _ _ _ :: _)) 2
            have h9 := SatL.set (Hs.out : SatL _ (cl _ _ _ :: _)) (i := 2) (.bool true)
            have H9 := hid h9
            clear h9 hlong hrn hs4 hE hm a2 hw3 hw4 HQ1 h8
            go_wp2_with (first
              | (go_at_call 38; (with_reducible refine kb.mono ?_); rintro e w5 ⟨rfl, rfl⟩))
            go_meet
            exact ⟨k, R, outs, .slice ra rl rc, true, hk, rfl, hid ⟨fun h => (by cases h), fun _ => HQ2.out⟩, H9.out⟩
          · have t3 : (16384 < rn) = False := by simp; omega
            have t4 : ((16384 : Int) < (rn : Int)) = False := by simp; omega
            by_cases hpart : bl < E
            · have t5 : (bl < E) = True := by simp; omega
              have t6 : ((bl : Int) < (E : Int)) = True := by simp; omega
              have HQ2 := hid (show Q = ⟨B.drop k, R, outs, false⟩ by rw [← HQ1.out]; exact recQ_part (by have := Hdl.out; omega) (by have := Hrl.out; rw [HNN.out]; omega) (by have := Hdl.out; rw [HNN.out]; omega))
              clear hlong hpart hrn hs4 hE hm a2 HQ1 h8
              go_wp2_with (first
                | (go_at_call 38; (with_reducible refine kb.mono ?_); rintro e w5 ⟨rfl, rfl⟩))
              go_meet
              exact ⟨k, R, outs, .slice ra rl rc, false, hk, rfl, hid ⟨fun h => (by cases h), fun _ => HQ2.out⟩, Hs.out⟩
            · have t5 : (bl < E) = False := by simp; omega
              have t6 : ((bl : Int) < (E : Int)) = False := by simp; omega
              have hs0 := Hs.out
              obtain ⟨bb, bo, rfl⟩ := Sl.addr (hs0.tail : SatL wr (SlB 5 (.slice ba bl bc) B :: _)) (by omega)
              have hbc : bl ≤ bc := by obtain ⟨_, _, e, q, _⟩ := (SlB.rd (hs0.tail : SatL wr (SlB 5 (.slice (some ⟨bb, bo, none⟩) bl bc) B :: _))).valn; cases e; exact HBl.out ▸ q
              have hs4E : s4 ≤ E := by omega
              have hsl := fun w => run_sub (b := bb) (off := bo) (n := bl) hs4E (show E ≤ bc by omega) w
              have hsr := fun w (h : RdB (.slice (some ⟨bb, bo, none⟩) bl bc) B w) => RdB.sub_if h (i := s4) (j := E) hs4E (by have := HBl.out; omega)
              have hEs : E - s4 = N := by omega
              rw [hEs] at hsl hsr
              obtain ⟨SA, hSA⟩ : ∃ SA : Option Addr, SA = if bc = s4 then some ⟨bb, bo, none⟩ else some ⟨bb, bo + s4, none⟩ := ⟨_, rfl⟩
              obtain ⟨SC, hSC⟩ : ∃ SC, SC = bc - s4 := ⟨_, rfl⟩
              rw [← hSA, ← hSC] at hsl hsr
              have hch : (B.take E).drop s4 = ((B.drop k).drop 4).take N := by rw [List.drop_drop, ← hs4, List.drop_take, hEs]
              rw [hch] at hsr
              obtain ⟨CH, hCH⟩ : ∃ CH, ((B.drop k).drop 4).take N = CH := ⟨_, rfl⟩
              rw [hCH] at hsr
              have hCl : CH.length = N := by rw [← hCH, List.length_take, List.length_drop, Hdl.out]; omega
              have hlast : 2147483648 ≤ V → Q = recQ (B.drop E) [] (outs ++ [R ++ CH]) := fun h => by rw [← HQ1.out, recQ_last (by have := Hdl.out; omega) (by have := Hrl.out; rw [HNN.out]; omega) (by have := Hdl.out; rw [HNN.out]; omega) (by rw [HVe.out]; exact h), HNN.out, hCH, List.drop_drop, show k + (4 + N) = E by omega]
              have hmore : ¬ 2147483648 ≤ V → Q = recQ (B.drop E) (R ++ CH) outs := fun h => by rw [← HQ1.out, recQ_more (by have := Hdl.out; omega) (by have := Hrl.out; rw [HNN.out]; omega) (by have := Hdl.out; rw [HNN.out]; omega) (by rw [HVe.out]; exact h), HNN.out, hCH, List.drop_drop, show k + (4 + N) = E by omega]
              have hEb : E ≤ bl := by omega
              have hEk : k + 4 ≤ E := by omega
              have Hlast := hid hlast
              have Hmore := hid hmore
              have Hsr := hid hsr
              have HCl := hid hCl
              have hbl1 : (rl + N) * 1 ≤ 140737488355328 := by omega
              have hml1 : rl + N ≤ maxLen := by unfold maxLen; omega
              have hrnl : rn ≤ 16384 := by omega
              have Hlen := hid (show (R ++ CH).length = rn by rw [List.length_append, Hrl.out, HCl.out, Hrn.out])
              clear hlast hmore hsr hch hCH hCl hSA hSC hEs hs4E hlong hpart hrn hs4 hE hm HQ1 h8
              go_upto_region 11 with (first
                | (go_at_call 38; (with_reducible refine kb.mono ?_); rintro e w5 ⟨rfl, rfl⟩))
              refine GoE.start (fun w' => w'.cell? ⟨rb, 0, none⟩ = some (.slice (some ⟨bb, bo, none⟩) bl bc) ∧ w'.cell? ⟨rb, 1, none⟩ = some (.slice ra rl rc)) 19 20 rfl (by kernel_rfl) ?_
              have hs1 := sat_drew.2 Hs.out
              generalize wr.drew = w5 at hs1 ⊢
              have S0 : w5.cell? ⟨rb, 0, none⟩ = some (.slice (some ⟨bb, bo, none⟩) bl bc) ∧ w5.cell? ⟨rb, 1, none⟩ = some (.slice ra rl rc) := ⟨SatL.cell (hs1 : SatL w5 (cl _ _ _ :: _)) (i := 0) rfl, SatL.cell (hs1 : SatL w5 (cl _ _ _ :: _)) (i := 1) rfl⟩
              have hK := Sl.toK (n := rl) (hs1.pull 2) (by rw [bvs_len]; exact Hrl.out)
              have hx := SrcOk.ofRdB (Hsr.out w5 (SlB.rd hs1.tail))
              rw [HCl.out] at hx
              clear c0 c1 c2 hs0 kb Hs
              refine GoE.take (i := 0) (v := ?_) rfl (by decide) (by kernel_rfl) (by kernel_rfl) (by kernel_rfl) (by kernel_rfl) (fun _ _ _ h => h) (by rfl) ?_ (by assumption) ?_
              rotate_left
              · intro w hSw; (try dsimp only at hSw); go_simp; try (with_reducible rfl)
              try simp only [Act.put, List.setIfInBounds_toArray, List.set_cons_zero, List.set_cons_succ]
              refine GoE.take (i := 1) (v := ?_) rfl (by decide) (by kernel_rfl) (by kernel_rfl) (by kernel_rfl) (by kernel_rfl) (fun _ _ _ h => h) (by rfl) ?_ (by assumption) ?_
              rotate_left
              · intro w hSw; (try dsimp only at hSw); go_simp; try (with_reducible rfl)
              try simp only [Act.put, List.setIfInBounds_toArray, List.set_cons_zero, List.set_cons_succ]
              refine GoE.take (i := 2) (v := ?_) rfl (by decide) (by kernel_rfl) (by kernel_rfl) (by kernel_rfl) (by kernel_rfl) (fun _ _ _ h => h) (by rfl) ?_ (by assumption) ?_
              rotate_left
              · intro w hSw; (try dsimp only at hSw); go_simp; try (with_reducible rfl)
              try simp only [Act.put, List.setIfInBounds_toArray, List.set_cons_zero, List.set_cons_succ]
              refine GoE.take (i := 3) (v := ?_) rfl (by decide) (by kernel_rfl) (by kernel_rfl) (by kernel_rfl) (by kernel_rfl) (fun _ _ _ h => h) (by rfl) ?_ (by assumption) ?_
              rotate_left
              · intro w hSw; (try dsimp only at hSw); go_simp; try (with_reducible rfl)
              try simp only [Act.put, List.setIfInBounds_toArray, List.set_cons_zero, List.set_cons_succ]
              refine GoE.take (i := 4) (v := ?_) rfl (by decide) (by kernel_rfl) (by kernel_rfl) (by kernel_rfl) (by kernel_rfl) (fun _ _ _ h => h) (by rfl) ?_ (by assumption) ?_
              rotate_left
              · intro w hSw; (try dsimp only at hSw); go_simp; try (with_reducible rfl)
              try simp only [Act.put, List.setIfInBounds_toArray, List.set_cons_zero, List.set_cons_succ]
              refine GoE.take (i := 5) (v := ?_) rfl (by decide) (by kernel_rfl) (by kernel_rfl) (by kernel_rfl) (by kernel_rfl) (fun _ _ _ h => h) (by rfl) ?_ (by assumption) ?_
              rotate_left
              · intro w hSw; (try dsimp only at hSw); go_simp; try (with_reducible rfl)
              try simp only [Act.put, List.setIfInBounds_toArray, List.set_cons_zero, List.set_cons_succ]
              refine GoE.take (i := 6) (v := ?_) rfl (by decide) (by kernel_rfl) (by kernel_rfl) (by kernel_rfl) (by kernel_rfl) (fun _ _ _ h => h) (by rfl) ?_ (by assumption) ?_
              rotate_left
              · intro w hSw; (try dsimp only at hSw); go_simp; try (with_reducible rfl)
              try simp only [Act.put, List.setIfInBounds_toArray, List.set_cons_zero, List.set_cons_succ]
              refine GoE.take (i := 7) (v := ?_) rfl (by decide) (by kernel_rfl) (by kernel_rfl) (by kernel_rfl) (by kernel_rfl) (fun _ _ _ h => h) (by rfl) ?_ (by assumption) ?_
              rotate_left
              · intro w hSw; (try dsimp only at hSw); go_simp; try (with_reducible rfl)
              try simp only [Act.put, List.setIfInBounds_toArray, List.set_cons_zero, List.set_cons_succ]
              refine GoE.take (i := 8) (v := ?_) rfl (by decide) (by kernel_rfl) (by kernel_rfl) (by kernel_rfl) (by kernel_rfl) (fun _ _ _ h => h) (by rfl) ?_ (by assumption) ?_
              rotate_left
              · intro w hSw; (try dsimp only at hSw); go_simp; try (with_reducible rfl)
              try simp only [Act.put, List.setIfInBounds_toArray, List.set_cons_zero, List.set_cons_succ]
              refine GoE.take (i := 9) (v := ?_) rfl (by decide) (by kernel_rfl) (by kernel_rfl) (by kernel_rfl) (by kernel_rfl) (fun _ _ _ h => h) (by rfl) ?_ (by assumption) ?_
              rotate_left
              · intro w hSw; (try dsimp only at hSw); go_simp; try (with_reducible rfl)
              try simp only [Act.put, List.setIfInBounds_toArray, List.set_cons_zero, List.set_cons_succ]
              refine GoE.take (i := 10) (v := ?_) rfl (by decide) (by kernel_rfl) (by kernel_rfl) (by kernel_rfl) (by kernel_rfl) (fun _ _ _ h => h) (by rfl) ?_ (by assumption) ?_
              rotate_left
              · intro w hSw; (try dsimp only at hSw); go_simp; try (with_reducible rfl)
              try simp only [Act.put, List.setIfInBounds_toArray, List.set_cons_zero, List.set_cons_succ]
              refine GoE.take (i := 11) (v := ?_) rfl (by decide) (by kernel_rfl) (by kernel_rfl) (by kernel_rfl) (by kernel_rfl) (fun _ _ _ h => h) (by rfl) ?_ (by assumption) ?_
              rotate_left
              · intro w hSw; (try dsimp only at hSw); go_simp; try (with_reducible rfl)
              try simp only [Act.put, List.setIfInBounds_toArray, List.set_cons_zero, List.set_cons_succ]
              refine GoE.take (i := 12) (v := ?_) rfl (by decide) (by kernel_rfl) (by kernel_rfl) (by kernel_rfl) (by kernel_rfl) (fun _ _ _ h => h) (by rfl) ?_ (by assumption) ?_
              rotate_left
              · intro w hSw; (try dsimp only at hSw); go_simp; try (with_reducible rfl)
              try simp only [Act.put, List.setIfInBounds_toArray, List.set_cons_zero, List.set_cons_succ]
              refine GoE.take (i := 13) (v := ?_) rfl (by decide) (by kernel_rfl) (by kernel_rfl) (by kernel_rfl) (by kernel_rfl) (fun _ _ _ h => h) (by rfl) ?_ (by assumption) ?_
              rotate_left
              · intro w hSw; (try dsimp only at hSw); go_simp; try (with_reducible rfl)
              try simp only [Act.put, List.setIfInBounds_toArray, List.set_cons_zero, List.set_cons_succ]
              refine GoE.take (i := 14) (v := ?_) rfl (by decide) (by kernel_rfl) (by kernel_rfl) (by kernel_rfl) (by kernel_rfl) (fun _ _ _ h => h) (by rfl) ?_ (by assumption) ?_
              rotate_left
              · intro w hSw; (try dsimp only at hSw); go_simp; try (with_reducible rfl)
              try simp only [Act.put, List.setIfInBounds_toArray, List.set_cons_zero, List.set_cons_succ]
              refine GoE.one (i := 15) rfl (by kernel_rfl) (fun K hKK => ?_)
              refine step_append_sl rfl (.tmp 81) (.tmp 90) rfl elem_byte rfl hK rfl hx (bvs_one _) hbl1 hml1 ?_
              intro v6 w6 h10 _
              have h11 := Sl.ofK h10
              rw [← bvs_append] at h11
              obtain ⟨na, nc, rfl, _, _⟩ := Sl.valn h11 (m := rn) (by rw [bvs_len]; exact Hlen.out)
              have S1 : w6.cell? ⟨rb, 0, none⟩ = some (.slice (some ⟨bb, bo, none⟩) bl bc) ∧ w6.cell? ⟨rb, 1, none⟩ = some (.slice ra rl rc) := ⟨SatL.cell (h11.pull 1 : SatL w6 (cl _ _ _ :: _)) (i := 0) rfl, SatL.cell (h11.pull 1 : SatL w6 (cl _ _ _ :: _)) (i := 1) rfl⟩
              refine hKK.out _ _ (fun _ => S1) ?_
              clear hKK K S0 hK hx hs1 h10
              try simp only [Act.put, List.setIfInBounds_toArray, List.set_cons_zero, List.set_cons_succ]
              refine GoE.take (i := 16) (v := ?_) rfl (by decide) (by kernel_rfl) (by kernel_rfl) (by kernel_rfl) (by kernel_rfl) (fun _ _ _ h => h) (by rfl) ?_ (by assumption) ?_
              rotate_left
              · intro w hSw; (try dsimp only at hSw); go_simp; try (with_reducible rfl)
              try simp only [Act.put, List.setIfInBounds_toArray, List.set_cons_zero, List.set_cons_succ]
              refine GoE.take (i := 17) (v := ?_) rfl (by decide) (by kernel_rfl) (by kernel_rfl) (by kernel_rfl) (by kernel_rfl) (fun _ _ _ h => h) (by rfl) ?_ (by assumption) ?_
              rotate_left
              · intro w hSw; (try dsimp only at hSw); go_simp; try (with_reducible rfl)
              try simp only [Act.put, List.setIfInBounds_toArray, List.set_cons_zero, List.set_cons_succ]
              refine GoE.take (i := 18) (v := ?_) rfl (by decide) (by kernel_rfl) (by kernel_rfl) (by kernel_rfl) (by kernel_rfl) (fun _ _ _ h => h) (by rfl) ?_ (by assumption) ?_
              rotate_left
              · intro w hSw; (try dsimp only at hSw); go_simp; try (with_reducible rfl)
              try simp only [Act.put, List.setIfInBounds_toArray, List.set_cons_zero, List.set_cons_succ]
              have h12 : SatL w6 (cl rb _ _ :: _) := h11.pull 1
              have f1 := SatL.free h12 1
              have c1 := S1.2
              have h13 := SatL.set h12 (i := 1) (.slice na rn nc)
              have H13 := hid h13
              clear h13 h12 S1
              refine GoE.one (i := 19) rfl (by kernel_rfl) (fun K hK => ?_)
              go_simp
              refine hK.out _ _ (fun h => absurd rfl h) ?_
              clear hK K
              try simp only [Act.put, List.setIfInBounds_toArray, List.set_cons_zero, List.set_cons_succ]
              refine GoE.done (by kernel_rfl) ?_
              clear f1 c1
              generalize w6.setCell ⟨rb, 1, none⟩ (.slice na rn nc) = w7 at H13 ⊢
              have h14 : SatL w7 (cl rb 85 #[.slice (some ⟨bb, bo, none⟩) bl bc, .slice na rn nc, .bool false] :: SlB 5 (.slice na rn nc) (R ++ CH) :: SlB 5 (.slice (some ⟨bb, bo, none⟩) bl bc) B :: RowsL u6 outs :: L) := H13.out
              have HRN := hid hrnl
              clear H13 h11 Hsr hbl1 hml1 hsl a1 hw0 hw1 hw2 hw3 hw4 t1 t2 t3 t4 t5 t6 hrnl
              by_cases hl : 2147483648 ≤ V
              · rw [if_pos hl] at a2
                replace a2 : bits .and .u64 (V : Int) 2147483648 = 2147483648 := a2
                have HQ3 := hid (Hlast.out hl)
                have c1 := SatL.cell (h14 : SatL w7 (cl _ _ _ :: _)) (i := 1) (v := .slice na rn nc) rfl
                obtain ⟨rs, hrs, h15⟩ := sat_RowsL.1 (h14.pull 3)
                have h16 := sat_RowsQ.1 h15
                have hol : rs.length = outs.length := by rw [← hrs, List.length_map]
                have hbq : ((rs.map (·.v)).length + 1) * 24 ≤ 140737488355328 := by rw [List.length_map]; omega
                obtain ⟨on, hon⟩ : ∃ on, rs.length + 1 = on := ⟨_, rfl⟩
                obtain ⟨oz, hoz⟩ : ∃ oz, rs.length = oz := ⟨_, rfl⟩
                obtain ⟨oa, oc, rfl, _, _⟩ := Sl.valn h16 (m := oz) (by rw [List.length_map]; exact hoz)
                have Hrs := hid hrs
                have Hon := hid hon
                have hog : outs.length + 1 ≤ E := by omega
                clear h14 h15 hrs hol hon hoz hl Hlast Hmore
                go_wp2_with (first
                  | (at_builtin; refine wpList_push_sl rfl (.tmp 99) (.tmp 105) rfl elem_rowb (by omega) rfl h16 rfl rfl hbq ?_; intro v8 w8 h17; obtain ⟨oa2, oc2, rfl, _, _⟩ := Sl.valn h17 (m := on) (by rw [List.length_append, List.length_map]; exact Hon.out); have h18 : SatL w8 (cl rb _ _ :: _) := h17.pull 2; have f1 := SatL.free h18 1; have d1 := SatL.cell h18 (i := 1) (v := .slice na rn nc) rfl; have h19 := SatL.set h18 (i := 1) (.slice none 0 0); have H19 := hid h19; clear h16 h17 h18 h19))
                go_roundw
                case rel =>
                  have h20 := rows_push ((H19.out).bring [1, 2, 3])
                  rw [Hrs.out] at h20
                  exact ⟨E, [], outs ++ [R ++ CH], .slice none 0 0, hEb, by go_num, by simp, by rw [List.length_append]; exact hog, hid HQ3.out.symm, (Sl_nil (T := 5) h20).bring [2, 3, 0]⟩
                case measure => simp [intOf]; omega
              · rw [if_neg hl] at a2
                replace a2 : bits .and .u64 (V : Int) 2147483648 = 0 := a2
                have HQ3 := hid (Hmore.out hl)
                have H14 := hid h14
                have hog : outs.length ≤ E := by omega
                clear h14 hl Hlast Hmore
                go_wp2_with fail
                go_roundw
                case rel => exact ⟨E, R ++ CH, outs, .slice na rn nc, hEb, by go_num, by rw [Hlen.out]; exact HRN.out, hog, hid HQ3.out.symm, H14.out.bring [0, 2]⟩
                case measure => simp [intOf]; omega
        · have t1 : (4 ≤ m) = False := by simp; omega
          have t2 : ((4 : Int) ≤ (m : Int)) = False := by simp; omega
          have HQ2 := hid (show Q = ⟨B.drop k, R, outs, false⟩ by rw [← HQ1.out]; exact recQ_short (by omega))
          have Hs := hid hs
          clear hs hm4 hm hdl
          go_wp2_with fail
          go_meet
          exact ⟨k, R, outs, u1, false, hk, rfl, hid ⟨fun h => (by cases h), fun _ => HQ2.out⟩, Hs.out⟩
  case rest =>
    obtain ⟨k, R, outs, u1, lg, hk, rfl, HQ2, hs⟩ := hcut
    have hb2 := SlB.rd hs.tail
    obtain ⟨sv, hsv, gsv⟩ := hb2.from (i := k) (by have := HBl.out; omega)
    have hsb := gsv _ hb2
    obtain ⟨sa, sc, rfl, _, _⟩ := hsb.valn
    have hx := SrcOk.ofRdB hsb
    obtain ⟨DD, hDD⟩ : ∃ DD, B.drop k = DD := ⟨_, rfl⟩
    have hDl : DD.length ≤ bl := by rw [← hDD, List.length_drop, HBl.out]; omega
    rw [hDD] at hx hsv HQ2
    obtain ⟨dn, hdn⟩ : ∃ dn, DD.length = dn := ⟨_, rfl⟩
    have hK := Sl.toK (n := 0) (Sl_nil (T := 5) hs) rfl
    have hbb : (0 + dn) * 1 ≤ 140737488355328 := by omega
    have h63 : 0 + dn ≤ maxLen := by unfold maxLen; omega
    rw [hdn] at hx hsv
    have c0 := SatL.cell (hs : SatL _ (cl _ _ _ :: _)) (i := 0) (v := .slice ba bl bc) rfl
    have Hdn := hid hdn
    have HDD := hid hDD
    clear hb2 gsv hsb hDD hDl hdn h7
    obtain ⟨rs, hrs, h15⟩ := sat_RowsL.1 (hs.pull 3)
    obtain ⟨on, hon⟩ : ∃ on, rs.length = on := ⟨_, rfl⟩
    obtain ⟨oa, oc, rfl, _, _⟩ := Sl.valn (sat_RowsQ.1 h15) (m := on) (by rw [List.length_map]; exact hon)
    clear h15 hrs hon
    cases lg with
    | true =>
      have hadd : RecS.add ⟨rest, row, long⟩ b = ([], 5, ⟨[], [], true⟩) := by
        unfold RecS.add
        cases hlg : long with
        | true => rfl
        | false =>
          have := HQ2.out.2 hlg
          dsimp only
          rw [if_neg (by simp), HB.out, HQ.out, this, if_pos rfl]
      have Hadd := hid hadd
      clear hadd hs
      go_wp2_with (at_builtin; refine wpList_append_sl rfl (.const (.slice none 0 0)) (.tmp 118) rfl elem_byte rfl hK rfl hx (bvs_one _) hbb h63 ?_; intro v4 w4 h9 _; have h10 := Sl.ofK h9; rw [List.nil_append] at h10; obtain ⟨ta, tc, rfl, _, _⟩ := Sl.valn h10 (m := dn) (by rw [bvs_len]; exact Hdn.out); have h11 : SatL w4 (cl rb _ _ :: _) := h10.pull 1; have f0 := SatL.free h11 0; have f1 := SatL.free h11 1; have d0 := SatL.cell h11 (i := 0) (v := .slice ba bl bc) rfl; have d1 := SatL.cell h11 (i := 1) (v := u1) rfl; have d2 := SatL.cell h11 (i := 2) (v := .bool true) rfl; have h12 := SatL.set (SatL.set (SatL.set h11 (i := 0) (.slice ta dn tc)) (i := 0) (.slice none 0 0)) (i := 1) (.slice none 0 0); have H12 := hid h12; clear h9 h10 h11 h12 hK)
      go_ret2
      refine Ret.mk ?_
      rw [Hadd.out]
      have h13 := H12.out
      exact ⟨.slice none 0 0, rfl, RowsL_nil (sat_RecR.2 ⟨.slice none 0 0, .slice none 0 0, SatL.tail (SatL.tail (SatL.tail (SatL.tail ((Sl_nil (T := 5) (Sl_nil (T := 5) h13)).bring [3, 4, 5, 6, 2, 0, 1]))))⟩)⟩
    | false =>
      have hadd : RecS.add ⟨rest, row, long⟩ b = (outs, 0, ⟨DD, R, false⟩) := by
        unfold RecS.add
        cases hlg : long with
        | true => have := HQ2.out.1 hlg; cases this
        | false =>
          have := HQ2.out.2 hlg
          dsimp only
          rw [if_neg (by simp), HB.out, HQ.out, this, if_neg (by simp)]
      have Hadd := hid hadd
      clear hadd hs
      go_wp2_with (at_builtin; refine wpList_append_sl rfl (.const (.slice none 0 0)) (.tmp 118) rfl elem_byte rfl hK rfl hx (bvs_one _) hbb h63 ?_; intro v4 w4 h9 _; have h10 := Sl.ofK h9; rw [List.nil_append] at h10; obtain ⟨ta, tc, rfl, _, _⟩ := Sl.valn h10 (m := dn) (by rw [bvs_len]; exact Hdn.out); have h11 : SatL w4 (cl rb _ _ :: _) := h10.pull 1; have f0 := SatL.free h11 0; have d0 := SatL.cell h11 (i := 0) (v := .slice ba bl bc) rfl; have d2 := SatL.cell h11 (i := 2) (v := .bool false) rfl; have h12 := SatL.set h11 (i := 0) (.slice ta dn tc); have H12 := hid h12; clear h9 h10 h11 h12 hK)
      go_ret2
      refine Ret.mk ?_
      rw [Hadd.out]
      have h13 := H12.out
      exact ⟨.slice oa on oc, rfl, SatL.swap (sat_RecR.2 ⟨.slice ta dn tc, u1, SatL.tail (h13.bring [2, 0, 1, 3])⟩ |> fun h => h)⟩
end
end Go.Proofs.YtpecmkkcepnpeaaDoor
