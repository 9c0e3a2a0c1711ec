/- the document's rpc: Records.Add. No condition beside the sizes. -/
import Derived.Test.YtpecmkkcepnpeaaDoorRec
import Derived.Test.YtpecmkkcepnpeaaDoorRxS
import Derived.Test.YtpecmkkcepnpeaaDoorRxA
namespace Go.Proofs.YtpecmkkcepnpeaaDoor
set_option linter.unusedVariables false
set_option linter.unusedSimpArgs false
open Go.RowKit
abbrev RREC : TypeId := 41
structure XQ where
  hv : Value
  bv : Value
  head : List UInt8
  left : Nat
  last : Bool
  piece : Bool
  B : List UInt8
def XQ.cells (q : XQ) (dead : Bool) : Array Value := #[q.hv, .int .i64 (q.left : Int), .bool q.last, .bool q.piece, q.bv, .bool dead]
/-- the document's Records -/
def RefRec (xb : Nat) (s : RecS) : HP := ex fun q : XQ => sep [pur (s.long = false → XRep q.head q.left q.last q.piece q.B s.rest s.row), cl xb RREC (q.cells s.long), SlB 5 q.hv q.head, SlB 5 q.bv q.B]
section
variable {w : World} {L : List HP} {xb : Nat} {s : RecS}
theorem sat_RefRec : SatL w (RefRec xb s :: L) ↔ ∃ q : XQ, (s.long = false → XRep q.head q.left q.last q.piece q.B s.rest s.row) ∧ SatL w (cl xb RREC (q.cells s.long) :: SlB 5 q.hv q.head :: SlB 5 q.bv q.B :: L) := by
  simp only [RefRec, sat_ex, sat_sep, List.cons_append, List.nil_append, sat_pur]
theorem refrec_new {hv bv : Value} {c : Nat} (h : SatL w (cl xb RREC #[.slice none 0 0, .int .i64 0, .bool false, .bool false, .slice none 0 0, .bool false] :: L)) : SatL w (RefRec xb RecS.new :: L) :=
  sat_RefRec.2 ⟨⟨.slice none 0 0, .slice none 0 0, [], 0, false, false, []⟩, fun _ => .inl ⟨rfl, rfl, by simp [RecS.new], rfl⟩, (Sl_nil (T := 5) (Sl_nil (T := 5) h)).pull 2⟩
set_option maxRecDepth 100000 in
set_option maxHeartbeats 8000000 in
theorem refadd_ok {v : Value} {b : List UInt8} (hb : b.length ≤ 100000000) (hr : s.row.length ≤ 16384) (h : SatL w (RefRec xb s :: L)) (g : Gives L (RdV v b)) :
    Calls Tryd.prog 17 #[.pointer (some ⟨xb, 0, none⟩), v] w (Ret fun r w' => ∃ ov, r = .tuple #[ov, .int .i64 (s.add b).2.1] ∧ SatL w' (RowsL ov (s.add b).1 :: RefRec xb (s.add b).2.2 :: L)) := by
  obtain ⟨bl, hbl⟩ : ∃ bl, b.length = bl := ⟨_, rfl⟩
  obtain ⟨a, c, rfl, g1, g2⟩ := (g w h.tail).valn
  rw [hbl] at g g1 hb ⊢
  obtain ⟨⟨hv, bv, head, left, last, piece, B⟩, hrep, h0⟩ := sat_RefRec.1 h
  dsimp only at hrep h0
  have h1 : SatL w (cl xb RREC #[hv, .int .i64 (left : Int), .bool last, .bool piece, bv, .bool s.long] :: SlB 5 hv head :: SlB 5 bv B :: L) := h0
  have Gg := hid g
  have Hbl := hid hbl
  clear h h0 g hbl
  cases hsl : s.long with
  | true =>
    rw [hsl] at h1
    have hadd : s.add b = ([], 5, ⟨[], [], true⟩) := by unfold RecS.add; rw [if_pos hsl]
    have c5 := SatL.cell (h1 : SatL w (cl _ _ _ :: _)) (i := 5) (v := .bool true) rfl
    have Hadd := hid hadd
    have H1 := hid h1
    clear h1 hadd hrep
    go_enter Tryd.func17, Tryd.ntmps17
    go_wp2_with fail
    go_ret2
    refine Ret.mk ⟨.slice none 0 0, by rw [Hadd.out]; rfl, ?_⟩
    rw [Hadd.out]
    exact RowsL_nil (sat_RefRec.2 ⟨⟨hv, bv, head, left, last, piece, B⟩, fun h => (by cases h), H1.out⟩)
  | false =>
  rw [hsl] at h1
  have hrep' := hrep hsl
  obtain ⟨Q, hQ⟩ : ∃ Q, recQ (s.rest ++ b) s.row [] = Q := ⟨_, rfl⟩
  have hadd : s.add b = if Q.long = true then ([], 5, ⟨[], [], true⟩) else (Q.out, 0, ⟨Q.rest, Q.row, false⟩) := by unfold RecS.add; rw [if_neg (by rw [hsl]; simp), hQ]
  have c5 := SatL.cell (h1 : SatL w (cl _ _ _ :: _)) (i := 5) (v := .bool false) rfl
  have Hadd := hid hadd
  have HQ := hid hQ
  have Hrep := hid hrep'
  have Hr := hid hr
  have h2 := (RowsL_nil h1).bring [1, 2, 3, 0]
  have H2 := hid h2
  clear h1 h2 hadd hrep hrep' hQ hr
  go_enter Tryd.func17, Tryd.ntmps17
  go_upto_block 0 with fail
  clear c5
  go_wp2_with fail
  go_loopw [6, 7] (fun o i wr => ∃ (k : Nat) (outs : List (List UInt8)) (rest row head B : List UInt8) (left : Nat) (last piece : Bool) (hv bv : Value), i = .int .i64 (k : Int) ∧ k ≤ bl ∧ outs.length ≤ k ∧ Hid (XRep head left last piece B rest row ∧ row.length ≤ 16384 ∧ recQ (rest ++ b.drop k) row outs = Q) ∧ SatL wr (cl xb RREC #[hv, .int .i64 (left : Int), .bool last, .bool piece, bv, .bool false] :: SlB 5 hv head :: SlB 5 bv B :: RowsL o outs :: L)) (fun _ i _ => bl - (intOf i).toNat)
  case atStart => exact ⟨0, [], s.rest, s.row, head, B, left, last, piece, hv, bv, rfl, by omega, by simp, hid ⟨Hrep.out, Hr.out, HQ.out⟩, H2.out⟩
  case round =>
    clear H2 Hrep HQ Hr
    obtain ⟨k, outs, rest, row, head, B, left, last, piece, hv, bv, rfl, hk, ho, HX, hs⟩ := hrel
    have c3 := SatL.cell (hs : SatL _ (cl _ _ _ :: _)) (i := 3) (v := .bool piece) rfl
    go_upto_if 19 with fail
    clear c3
    go_cut [7, 8, 9] from 19 to 85 (fun i _ _ wx => ∃ (k' : Nat) (h4 got row B : List UInt8) (left : Nat) (last : Bool) (hv bv : Value), i = .int .i64 (k' : Int) ∧ k ≤ k' ∧ k' ≤ bl ∧ (k < k' ∨ 0 < left) ∧ left ≤ 16384 ∧ Hid (h4.length = 4 ∧ B = row ++ got ∧ left + got.length = headN h4 ∧ last = decide (2147483648 ≤ headV h4) ∧ row.length + headN h4 ≤ 16384 ∧ recQ (h4 ++ got ++ b.drop k') row outs = Q) ∧ SatL wx (cl xb RREC #[hv, .int .i64 (left : Int), .bool last, .bool true, bv, .bool false] :: SlB 5 hv [] :: SlB 5 bv B :: RowsL u6 outs :: L))
    case first =>
      cases piece with
      | true =>
        rcases HX.out with ⟨h0 | ⟨_, e1, h4, got, e2, e3, e4, e5, e6, e7, e8⟩, e9, e10⟩
        · exact absurd h0.1 (by simp)
        have hl : left ≤ 16384 := by omega
        have HX2 := hid (show h4.length = 4 ∧ B = row ++ got ∧ left + got.length = headN h4 ∧ last = decide (2147483648 ≤ headV h4) ∧ row.length + headN h4 ≤ 16384 ∧ recQ (h4 ++ got ++ b.drop k) row outs = Q from ⟨e3, e4, e5, e6, e7, by rw [← e10, e2]⟩)
        rw [e1] at hs
        have He8 := hid e8
        clear e1 e2 e3 e4 e5 e6 e7 e8 e9 e10
        go_wp2_with fail
        go_meet
        exact ⟨k, h4, got, row, B, left, last, hv, bv, rfl, Nat.le_refl _, hk, .inr He8.out, hl, HX2, hs⟩
      | false =>
        rcases HX.out with ⟨⟨_, e1, e2, e3⟩ | h0, e4, e5⟩
        case inr => exact absurd h0.1 (by simp)
        subst e1
        subst e3
        by_cases hkl : bl ≤ k
        · have hdk : b.drop k = [] := List.drop_of_length_le (by rw [Hbl.out]; exact hkl)
          have hq : Q = ⟨head, B, outs, false⟩ := by rw [← e5, hdk, List.append_nil]; exact recQ_short (by omega)
          have t1 : (bl : Int) ≤ k := by omega
          have hadd : s.add b = (outs, 0, ⟨head, B, false⟩) := by rw [Hadd.out, hq]; rfl
          have Hadd2 := hid hadd
          have He2 := hid e2
          obtain ⟨rs, hrs, h15⟩ := sat_RowsL.1 (hs.pull 3)
          obtain ⟨on, hon⟩ : ∃ on, rs.length = on := ⟨_, rfl⟩
          obtain ⟨oa, oc, rfl, _, _⟩ := Sl.valn (sat_RowsQ.1 h15) (m := on) (by rw [List.length_map]; exact hon)
          clear h15 hrs hon hdk hq hadd e2 e4 e5
          go_wp2_with fail
          go_ret2
          refine Ret.mk ⟨.slice oa on oc, by rw [Hadd2.out]; rfl, ?_⟩
          rw [Hadd2.out]
          exact SatL.swap (sat_RefRec.2 ⟨⟨hv, bv, head, left, last, false, B⟩, fun _ => .inl ⟨rfl, rfl, He2.out, rfl⟩, hs⟩)
        · have hkl2 : k < bl := by omega
          have t1 : ¬ (bl : Int) ≤ k := by omega
          have t3 : (k : Int) < bl := by omega
          obtain ⟨z1, z2, z3, bb, bo, rfl, hbc⟩ := ((Gg.out wr hs.tail.tail.tail.tail).b (by rw [Hbl.out]; omega)).at (by rw [Hbl.out]; omega)
          clear z1 z2 z3
          have hx := hbc k (by rw [Hbl.out]; exact hkl2)
          have hby := hid (fun (w' : World) (h : SatL w' L) => (by
            obtain ⟨_, _, _, b2, o2, e, hc2⟩ := ((Gg.out w' h).b (by rw [Hbl.out]; omega)).at (by rw [Hbl.out]; omega)
            cases e
            exact hc2 k (by rw [Hbl.out]; exact hkl2) : w'.cell? ⟨bb, bo + k, none⟩ = some (.int .u8 (((b.getD k 0).toNat : Nat) : Int))))
          obtain ⟨x, hxx⟩ : ∃ x, b.getD k 0 = x := ⟨_, rfl⟩
          rw [hxx] at hx hby
          have hcons : b.drop k = x :: b.drop (k + 1) := by
            rw [List.drop_eq_getElem_cons (by rw [Hbl.out]; exact hkl2), ← hxx]
            simp [List.getD, Hbl.out, hkl2]
          rw [hcons] at e5
          obtain ⟨hn, hhn⟩ : ∃ hn, head.length = hn := ⟨_, rfl⟩
          obtain ⟨ha, hc, rfl, _, _⟩ := Sl.valn (hs.pull 1) (m := hn) (by rw [bvs_len]; exact hhn)
          have E5 := hid e5
          have E2 := hid e2
          have E4 := hid e4
          have Hhn := hid hhn
          have Hkl2 := hid hkl2
          clear hbc hxx hcons e5 e2 e4 hhn hkl hkl2
          obtain ⟨hm, hhm⟩ : ∃ hm, hm = hn + 1 := ⟨_, rfl⟩
          have hhm4 : hm ≤ 4 := by have := E2.out; have := Hhn.out; omega
          have hbb : (hn + 1) * 1 ≤ 140737488355328 := by omega
          have h63 : hn + 1 ≤ maxLen := by unfold maxLen; omega
          have Hhm := hid hhm
          clear hhm
          go_upto_region 8 with fail
          refine GoE.start (fun w' => w'.cell? ⟨xb, 0, none⟩ = some (.slice ha hn hc) ∧ w'.cell? ⟨bb, bo + k, none⟩ = some (.int .u8 ((x.toNat : Nat) : Int))) 13 14 rfl (by kernel_rfl) ?_
          have hd := sat_drew.2 hs
          have S0 : wr.drew.cell? ⟨xb, 0, none⟩ = some (.slice ha hn hc) ∧ wr.drew.cell? ⟨bb, bo + k, none⟩ = some (.int .u8 ((x.toNat : Nat) : Int)) := ⟨SatL.cell (hd : SatL _ (cl xb _ _ :: _)) (i := 0) rfl, hx⟩
          generalize wr.drew = w4 at hd S0 ⊢
          clear hx hs
          refine GoE.take (i := 0) (v := ?_) rfl (by decide) (by kernel_rfl) (by kernel_rfl) (by kernel_rfl) (by kernel_rfl) (fun _ _ _ h => h) (by rfl) ?_ (by assumption) ?_
          rotate_left
          · intro w hSw; (try dsimp only at hSw); go_simp; try (with_reducible rfl)
          try simp only [Act.put, List.setIfInBounds_toArray, List.set_cons_zero, List.set_cons_succ]
          refine GoE.take (i := 1) (v := ?_) rfl (by decide) (by kernel_rfl) (by kernel_rfl) (by kernel_rfl) (by kernel_rfl) (fun _ _ _ h => h) (by rfl) ?_ (by assumption) ?_
          rotate_left
          · intro w hSw; (try dsimp only at hSw); go_simp; try (with_reducible rfl)
          try simp only [Act.put, List.setIfInBounds_toArray, List.set_cons_zero, List.set_cons_succ]
          refine GoE.take (i := 2) (v := ?_) rfl (by decide) (by kernel_rfl) (by kernel_rfl) (by kernel_rfl) (by kernel_rfl) (fun _ _ _ h => h) (by rfl) ?_ (by assumption) ?_
          rotate_left
          · intro w hSw; (try dsimp only at hSw); go_simp; try (with_reducible rfl)
          try simp only [Act.put, List.setIfInBounds_toArray, List.set_cons_zero, List.set_cons_succ]
          refine GoE.take (i := 3) (v := ?_) rfl (by decide) (by kernel_rfl) (by kernel_rfl) (by kernel_rfl) (by kernel_rfl) (fun _ _ _ h => h) (by rfl) ?_ (by assumption) ?_
          rotate_left
          · intro w hSw; (try dsimp only at hSw); go_simp; try (with_reducible rfl)
          try simp only [Act.put, List.setIfInBounds_toArray, List.set_cons_zero, List.set_cons_succ]
          refine GoE.take (i := 4) (v := ?_) rfl (by decide) (by kernel_rfl) (by kernel_rfl) (by kernel_rfl) (by kernel_rfl) (fun _ _ _ h => h) (by rfl) ?_ (by assumption) ?_
          rotate_left
          · intro w hSw; (try dsimp only at hSw); go_simp; try (with_reducible rfl)
          try simp only [Act.put, List.setIfInBounds_toArray, List.set_cons_zero, List.set_cons_succ]
          refine GoE.take (i := 5) (v := ?_) rfl (by decide) (by kernel_rfl) (by kernel_rfl) (by kernel_rfl) (by kernel_rfl) (fun _ _ _ h => h) (by rfl) ?_ (by assumption) ?_
          rotate_left
          · intro w hSw; (try dsimp only at hSw); go_simp; try (with_reducible rfl)
          try simp only [Act.put, List.setIfInBounds_toArray, List.set_cons_zero, List.set_cons_succ]
          refine GoE.take (i := 6) (v := ?_) rfl (by decide) (by kernel_rfl) (by kernel_rfl) (by kernel_rfl) (by kernel_rfl) (fun _ _ _ h => h) (by rfl) ?_ (by assumption) ?_
          rotate_left
          · intro w hSw; (try dsimp only at hSw); go_simp; try (with_reducible rfl)
          try simp only [Act.put, List.setIfInBounds_toArray, List.set_cons_zero, List.set_cons_succ]
          refine GoE.take (i := 7) (v := ?_) rfl (by decide) (by kernel_rfl) (by kernel_rfl) (by kernel_rfl) (by kernel_rfl) (fun _ _ _ h => h) (by rfl) ?_ (by assumption) ?_
          rotate_left
          · intro w hSw; (try dsimp only at hSw); go_simp; try (with_reducible rfl)
          try simp only [Act.put, List.setIfInBounds_toArray, List.set_cons_zero, List.set_cons_succ]
          refine GoE.take (i := 8) (v := ?_) rfl (by decide) (by kernel_rfl) (by kernel_rfl) (by kernel_rfl) (by kernel_rfl) (fun _ _ _ h => h) (by rfl) ?_ (by assumption) ?_
          rotate_left
          · intro w hSw; (try dsimp only at hSw); go_simp; try (with_reducible rfl)
          try simp only [Act.put, List.setIfInBounds_toArray, List.set_cons_zero, List.set_cons_succ]
          have h3 := hd.alloc (.cells #[.int .u8 ((x.toNat : Nat) : Int)] 5)
          have S1 : (w4.alloc (.cells #[.int .u8 ((x.toNat : Nat) : Int)] 5)).cell? ⟨xb, 0, none⟩ = some (.slice ha hn hc) ∧ (w4.alloc (.cells #[.int .u8 ((x.toNat : Nat) : Int)] 5)).cell? ⟨bb, bo + k, none⟩ = some (.int .u8 ((x.toNat : Nat) : Int)) := ⟨SatL.cell (h3.pull 1 : SatL _ (cl xb _ _ :: _)) (i := 0) rfl, hby.out _ h3.tail.tail.tail.tail.tail⟩
          refine GoE.one (i := 9) rfl (by kernel_rfl) (fun K hK => ?_)
          go_simp
          refine hK.out _ _ (fun _ => S1) ?_
          clear hK K S0
          try simp only [Act.put, List.setIfInBounds_toArray, List.set_cons_zero, List.set_cons_succ]
          refine GoE.one (i := 10) rfl (by kernel_rfl) (fun K hK => ?_)
          refine step_append_sl rfl (.tmp 29) (.tmp 34) rfl elem_byte rfl (Sl.toK (n := hn) (h3.bring [2, 0, 1, 3, 4]) (by rw [bvs_len]; exact Hhn.out)) rfl (SrcOk.ofCl (k := 1) (n := 1) elem_byte.under h3 rfl 1) (by simp [Value.oneCell']) hbb h63 ?_
          intro v5 w5 h4 _
          have h5 := Sl.ofK h4
          obtain ⟨na, nc, rfl, _, _⟩ := Sl.valn h5 (m := hm) (by rw [List.length_append, bvs_len, Hhn.out, Hhm.out]; rfl)
          have S2 : w5.cell? ⟨xb, 0, none⟩ = some (.slice ha hn hc) ∧ w5.cell? ⟨bb, bo + k, none⟩ = some (.int .u8 ((x.toNat : Nat) : Int)) := ⟨SatL.cell (h5.pull 2 : SatL _ (cl xb _ _ :: _)) (i := 0) rfl, hby.out _ h5.tail.tail.tail.tail.tail⟩
          refine hK.out _ _ (fun _ => S2) ?_
          clear hK K S1
          try simp only [Act.put, List.setIfInBounds_toArray, List.set_cons_zero, List.set_cons_succ]
          refine GoE.take (i := 11) (v := ?_) rfl (by decide) (by kernel_rfl) (by kernel_rfl) (by kernel_rfl) (by kernel_rfl) (fun _ _ _ h => h) (by rfl) ?_ (by assumption) ?_
          rotate_left
          · intro w hSw; (try dsimp only at hSw); go_simp; try (with_reducible rfl)
          try simp only [Act.put, List.setIfInBounds_toArray, List.set_cons_zero, List.set_cons_succ]
          refine GoE.take (i := 12) (v := ?_) rfl (by decide) (by kernel_rfl) (by kernel_rfl) (by kernel_rfl) (by kernel_rfl) (fun _ _ _ h => h) (by rfl) ?_ (by assumption) ?_
          rotate_left
          · intro w hSw; (try dsimp only at hSw); go_simp; try (with_reducible rfl)
          try simp only [Act.put, List.setIfInBounds_toArray, List.set_cons_zero, List.set_cons_succ]
          have f0 := SatL.free (h5.pull 2 : SatL w5 (cl xb _ _ :: _)) 0
          have c0 := S2.1
          have hset := SatL.set (h5.pull 2 : SatL w5 (cl xb _ _ :: _)) (i := 0) (.slice na hm nc)
          have H13 := hid hset
          clear hset S2
          refine GoE.one (i := 13) rfl (by kernel_rfl) (fun K hK => ?_)
          go_simp
          refine hK.out _ _ (fun h => absurd rfl h) ?_
          clear hK K
          try simp only [Act.put, List.setIfInBounds_toArray, List.set_cons_zero, List.set_cons_succ]
          refine GoE.done (by kernel_rfl) ?_
          clear f0 c0
          generalize w5.setCell ⟨xb, 0, none⟩ (.slice na hm nc) = w7 at H13 ⊢
          have h14 : SatL w7 (cl xb RREC #[.slice na hm nc, .int .i64 (left : Int), .bool last, .bool false, bv, .bool false] :: SlB 5 (.slice na hm nc) (head ++ [x]) :: cl w4.heap.size 5 #[.int .u8 ((x.toNat : Nat) : Int)] :: SlB 5 bv B :: RowsL u6 outs :: L) := by
            have := H13.out
            rw [show bvs head ++ #[Value.int .u8 ((x.toNat : Nat) : Int)].toList = bvs (head ++ [x]) from by rw [bvs_append]; rfl] at this
            exact this
          have h15 : SatL w7 (cl xb RREC #[.slice na hm nc, .int .i64 (left : Int), .bool last, .bool false, bv, .bool false] :: SlB 5 (.slice na hm nc) (head ++ [x]) :: SlB 5 bv B :: RowsL u6 outs :: L) := ((h14.pull 2).tail)
          clear h14 H13 h3 h4 h5 hd hby
          have c0 := SatL.cell (h15 : SatL w7 (cl xb _ _ :: _)) (i := 0) (v := .slice na hm nc) rfl
          have E6 := hid (show recQ (head ++ [x] ++ b.drop (k + 1)) B outs = Q by rw [List.append_assoc]; exact E5.out)
          have hk1 : IntKind.i64.wrap ((k : Int) + 1) = ((k + 1 : Nat) : Int) := by rw [IntWalk.i64_in _ (by omega)]; omega
          have Hkl3 := hid (show k + 1 ≤ bl by omega)
          clear t1 t3 hbb h63
          by_cases h4 : hm < 4
          · have t1 : (hm : Int) < 4 := by omega
            have H15 := hid h15
            have H4 := hid (show (head ++ [x]).length < 4 by rw [List.length_append, Hhn.out]; have := Hhm.out; simp; omega)
            clear h15 h4
            go_wp2_with fail
            go_roundw
            case rel => exact ⟨k + 1, outs, head ++ [x], B, head ++ [x], B, left, last, false, _, bv, by go_num, Hkl3.out, by omega, hid ⟨.inl ⟨rfl, rfl, H4.out, rfl⟩, E4.out, E6.out⟩, H15.out⟩
            case measure => simp [intOf]; have := Hkl3.out; omega
          · have t1 : ¬ (hm : Int) < 4 := by omega
            have hl4 : (head ++ [x]).length = 4 := by rw [List.length_append, Hhn.out]; have := Hhm.out; simp; omega
            obtain ⟨H4, hH4⟩ : ∃ H4, head ++ [x] = H4 := ⟨_, rfl⟩
            rw [hH4] at hl4 h15 E6
            have kb0 := refbe_in (w := w7) (v := .slice na hm nc) (l := H4) (at_ := 0) (k := 4) (.inr (.inr (.inl rfl))) (by omega) (SlB.rd (h15.pull 1))
            obtain ⟨V, hV⟩ : ∃ V, leN ((H4.drop 0).take 4).reverse = V := ⟨_, rfl⟩
            have hVV : headV H4 = V := by rw [headV_four hl4, ← hV, List.drop_zero, List.take_of_length_le (by omega)]; rfl
            rw [hV] at kb0
            have kb : Calls Tryd.prog 39 #[.slice na hm nc, .int .i64 0, .int .i64 4] w7 fun e w' => e = .returned (.tuple #[.int .u64 (V : Int), .int .i64 0]) ∧ w7 = w' := kb0
            have hVl : V < 4294967296 := by rw [← hVV, headV_four hl4]; have := beN_lt H4; rw [hl4] at this; exact this
            have hN : headN H4 = V % 2147483648 := by unfold headN; rw [hVV]
            obtain ⟨N, hNN⟩ : ∃ N, V % 2147483648 = N := ⟨_, rfl⟩
            have a1 := head_mask V hVl
            rw [hNN] at a1 hN
            have a2 := head_top V hVl
            have a3 : IntKind.i64.wrap (N : Int) = (N : Int) := IntWalk.i64_in _ (by omega)
            have hNl : N < 2147483648 := by omega
            obtain ⟨LB, hLB⟩ : ∃ LB, decide (2147483648 ≤ V) = LB := ⟨_, rfl⟩
            rw [hLB] at a2
            have f0 := SatL.free (h15 : SatL w7 (cl xb _ _ :: _)) 0
            have f1 := SatL.free (h15 : SatL w7 (cl xb _ _ :: _)) 1
            have f2 := SatL.free (h15 : SatL w7 (cl xb _ _ :: _)) 2
            have f3 := SatL.free (h15 : SatL w7 (cl xb _ _ :: _)) 3
            have c1 := SatL.cell (h15 : SatL w7 (cl xb _ _ :: _)) (i := 1) (v := .int .i64 (left : Int)) rfl
            have c2 := SatL.cell (h15 : SatL w7 (cl xb _ _ :: _)) (i := 2) (v := .bool last) rfl
            have c3 := SatL.cell (h15 : SatL w7 (cl xb _ _ :: _)) (i := 3) (v := .bool false) rfl
            have hset := SatL.set (SatL.set (SatL.set (SatL.set (h15 : SatL w7 (cl xb _ _ :: _)) (i := 0) (.slice none 0 0)) (i := 2) (.bool LB)) (i := 1) (.int .i64 (N : Int))) (i := 3) (.bool true)
            have H16 := hid hset
            have HL4 := hid hl4
            have HVV := hid hVV
            have HN := hid hN
            have HLB := hid hLB
            clear hset h15 kb0 hV hl4 hVV hN hLB hH4 h4 hNN
            go_upto_region 16 with (first
              | (go_at_call 39; (with_reducible refine kb.mono ?_); rintro e w8 ⟨rfl, rfl⟩))
            have h17 := H16.out
            generalize (((w7.setCell ⟨xb, 0, none⟩ (.slice none 0 0)).setCell ⟨xb, 2, none⟩ (.bool LB)).setCell ⟨xb, 1, none⟩ (.int .i64 (N : Int))).setCell ⟨xb, 3, none⟩ (.bool true) = w9 at h17 ⊢
            obtain ⟨en, hen⟩ : ∃ en, B.length = en := ⟨_, rfl⟩
            obtain ⟨ea, ec, rfl, _, _⟩ := Sl.valn (h17.pull 2) (m := en) (by rw [bvs_len]; exact hen)
            have h18 : SatL w9 (cl xb RREC #[.slice none 0 0, .int .i64 (N : Int), .bool LB, .bool true, .slice ea en ec, .bool false] :: SlB 5 (.slice none 0 0) [] :: SlB 5 (.slice ea en ec) B :: RowsL u6 outs :: L) := ((Sl_nil (T := 5) ((h17.pull 1).tail)).swap)
            have hen16 : en ≤ 16384 := by rw [← hen]; exact E4.out
            have d1 := SatL.cell (h18 : SatL w9 (cl xb _ _ :: _)) (i := 1) (v := .int .i64 (N : Int)) rfl
            have d4 := SatL.cell (h18 : SatL w9 (cl xb _ _ :: _)) (i := 4) (v := .slice ea en ec) rfl
            have a4 : IntKind.i64.wrap (16384 - (en : Int)) = 16384 - (en : Int) := IntWalk.i64_in _ (by omega)
            have Hen := hid hen
            have H18 := hid h18
            clear h17 h18 hen H16 f0 f1 f2 f3 c0 c1 c2 c3 a1 a2 kb t1 E5 E2 hk1
            by_cases hlong : 16384 - (en : Int) < N
            · have hq : Q = ⟨H4 ++ b.drop (k + 1), B, outs, true⟩ := by rw [← E6.out]; exact recQ_over HL4.out (by rw [Hen.out, HN.out]; omega)
              have hadd : s.add b = ([], 5, ⟨[], [], true⟩) := by rw [Hadd.out, hq]; rfl
              have Hadd2 := hid hadd
              clear hq hadd
              go_quiet (fail)
              have h19 := hid (sat_drewM.2 H18.out : SatL (w9.drewN nq) _)
              clear d1 d4 H18
              generalize w9.drewN nq = w10 at *
              have d5 := SatL.cell (h19.out : SatL w10 (cl xb _ _ :: _)) (i := 5) (v := .bool false) rfl
              have f5 := SatL.free (h19.out : SatL w10 (cl xb _ _ :: _)) 5
              have h20 := hid (SatL.set (h19.out : SatL w10 (cl xb _ _ :: _)) (i := 5) (.bool true))
              go_wp2_with fail
              go_ret2
              refine Ret.mk ⟨.slice none 0 0, by rw [Hadd2.out]; rfl, ?_⟩
              rw [Hadd2.out]
              exact RowsL_nil (sat_RefRec.2 ⟨⟨.slice none 0 0, .slice ea en ec, [], N, LB, true, B⟩, fun h => (by cases h), ((h20.out.pull 3).tail)⟩)
            · have hlN : N ≤ 16384 := by omega
              go_quiet (fail)
              have h19 := hid (sat_drewM.2 H18.out : SatL (w9.drewN nq) _)
              clear d1 d4 H18
              generalize w9.drewN nq = w10 at *
              have HX2 := hid (show H4.length = 4 ∧ B = B ++ [] ∧ N + ([] : List UInt8).length = headN H4 ∧ LB = decide (2147483648 ≤ headV H4) ∧ B.length + headN H4 ≤ 16384 ∧ recQ (H4 ++ [] ++ b.drop (k + 1)) B outs = Q from ⟨HL4.out, by rw [List.append_nil], by rw [HN.out]; rfl, by rw [HVV.out, HLB.out], by rw [Hen.out, HN.out]; omega, by rw [List.append_nil]; exact E6.out⟩)
              go_wp2_with fail
              go_meet
              exact ⟨k + 1, H4, [], B, B, N, LB, .slice none 0 0, .slice ea en ec, by go_num, by omega, Hkl3.out, .inl (by omega), hlN, HX2, h19.out⟩
    case rest =>
      clear hs HX
      obtain ⟨k', h4, got, row, B, left, last, hv, bv, rfl, hkk, hk', hprog, hl, HX, hs⟩ := hcut
      obtain ⟨en, hen⟩ : ∃ en, B.length = en := ⟨_, rfl⟩
      obtain ⟨ea, ec, rfl, _, _⟩ := Sl.valn (hs.pull 2) (m := en) (by rw [bvs_len]; exact hen)
      obtain ⟨rl, hrl⟩ : ∃ rl, rl = bl - k' := ⟨_, rfl⟩
      obtain ⟨nn, hnn⟩ : ∃ nn, nn = min left rl := ⟨_, rfl⟩
      obtain ⟨kn, hkn⟩ : ∃ kn, kn = k' + nn := ⟨_, rfl⟩
      obtain ⟨l', hl'⟩ : ∃ l', l' = left - nn := ⟨_, rfl⟩
      have hknb : kn ≤ bl := by omega
      have w1f : IntKind.i64.wrap ((bl : Int) - (k' : Int)) = (rl : Int) := by rw [IntWalk.i64_in _ (by omega)]; omega
      have w1g : (bl : Int) - (k' : Int) = (rl : Int) := by omega
      have w2f : IntKind.i64.wrap ((k' : Int) + (nn : Int)) = (kn : Int) := by rw [IntWalk.i64_in _ (by omega)]; omega
      have w3f : IntKind.i64.wrap ((left : Int) - (nn : Int)) = (l' : Int) := by rw [IntWalk.i64_in _ (by omega)]; omega
      have w3g : (left : Int) - (nn : Int) = (l' : Int) := by omega
      have hmin : ∀ w : World, (Builtin.min_ #[3, 3] 3 #[.int .i64 (left : Int), .int .i64 (rl : Int)]).run Tryd.prog w = .ok (.int .i64 (nn : Int)) w := fun w => by
        have e : (Builtin.min_ #[3, 3] 3 #[.int .i64 (left : Int), .int .i64 (rl : Int)]).run Tryd.prog w = .ok (.int .i64 (if (rl : Int) < (left : Int) then (rl : Int) else (left : Int))) w := rfl
        rw [e]
        congr 2
        split <;> omega
      obtain ⟨vs, hsl, hrs⟩ := (Gg.out wc hs.tail.tail.tail.tail).mid (i := k') (j := kn) (by omega) (by rw [Hbl.out]; exact hknb)
      obtain ⟨CH, hCH⟩ : ∃ CH, (b.take kn).drop k' = CH := ⟨_, rfl⟩
      have hCl : CH.length = nn := by rw [← hCH, List.length_drop, List.length_take, Hbl.out]; omega
      have hdrop : b.drop k' = CH ++ b.drop kn := by
        rw [← hCH, List.drop_take, show kn - k' = nn by omega, hkn, ← List.drop_drop, List.take_append_drop]
      rw [hCH] at hrs
      rw [hdrop] at HX
      have Hrs := hid hrs
      have HCl := hid hCl
      have Hen := hid hen
      have hen16 : en ≤ 16384 := by
        have h1 := HX.out.2.1
        have h2 := HX.out.2.2.1
        have h3 := HX.out.2.2.2.2.1
        have h5 : B.length = row.length + got.length := by rw [h1, List.length_append]
        omega
      have hbb : (en + nn) * 1 ≤ 140737488355328 := by omega
      have h63 : en + nn ≤ maxLen := by unfold maxLen; omega
      obtain ⟨en2, hen2⟩ : ∃ en2, en2 = en + nn := ⟨_, rfl⟩
      have Hnums := hid (And.intro hrl (And.intro hnn (And.intro hkn (And.intro hl' hen2))))
      have Hkk := hid (And.intro hkk (And.intro hk' (And.intro hprog hknb)))
      have d1 := SatL.cell (hs : SatL _ (cl xb _ _ :: _)) (i := 1) (v := .int .i64 (left : Int)) rfl
      clear hrl hnn hkn hl' hCH hCl hen hdrop hrs hen2 hkk hprog
      go_upto_region 20 with fail
      clear d1
      refine GoE.start (fun w' => w'.cell? ⟨xb, 4, none⟩ = some (.slice ea en ec)) 14 15 rfl (by kernel_rfl) ?_
      have hd := sat_drew.2 hs
      have S0 : wc.drew.cell? ⟨xb, 4, none⟩ = some (.slice ea en ec) := SatL.cell (hd : SatL _ (cl xb _ _ :: _)) (i := 4) rfl
      generalize wc.drew = w4 at hd S0 ⊢
      have hx := SrcOk.ofRdV (Hrs.out w4 (Gg.out w4 hd.tail.tail.tail.tail))
      rw [HCl.out] at hx
      have hK := Sl.toK (n := en) (hd.pull 2) (by rw [bvs_len]; exact Hen.out)
      clear hs hd
      refine GoE.take (i := 0) (v := ?_) rfl (by decide) (by kernel_rfl) (by kernel_rfl) (by kernel_rfl) (by kernel_rfl) (fun _ _ _ h => h) (by rfl) ?_ (by assumption) ?_
      rotate_left
      · intro w hSw; (try dsimp only at hSw); go_simp; try (with_reducible rfl)
      try simp only [Act.put, List.setIfInBounds_toArray, List.set_cons_zero, List.set_cons_succ]
      refine GoE.take (i := 1) (v := ?_) rfl (by decide) (by kernel_rfl) (by kernel_rfl) (by kernel_rfl) (by kernel_rfl) (fun _ _ _ h => h) (by rfl) ?_ (by assumption) ?_
      rotate_left
      · intro w hSw; (try dsimp only at hSw); go_simp; try (with_reducible rfl)
      try simp only [Act.put, List.setIfInBounds_toArray, List.set_cons_zero, List.set_cons_succ]
      refine GoE.take (i := 2) (v := ?_) rfl (by decide) (by kernel_rfl) (by kernel_rfl) (by kernel_rfl) (by kernel_rfl) (fun _ _ _ h => h) (by rfl) ?_ (by assumption) ?_
      rotate_left
      · intro w hSw; (try dsimp only at hSw); go_simp; try (with_reducible rfl)
      try simp only [Act.put, List.setIfInBounds_toArray, List.set_cons_zero, List.set_cons_succ]
      refine GoE.take (i := 3) (v := ?_) rfl (by decide) (by kernel_rfl) (by kernel_rfl) (by kernel_rfl) (by kernel_rfl) (fun _ _ _ h => h) (by rfl) ?_ (by assumption) ?_
      rotate_left
      · intro w hSw; (try dsimp only at hSw); go_simp; try (with_reducible rfl)
      try simp only [Act.put, List.setIfInBounds_toArray, List.set_cons_zero, List.set_cons_succ]
      refine GoE.take (i := 4) (v := ?_) rfl (by decide) (by kernel_rfl) (by kernel_rfl) (by kernel_rfl) (by kernel_rfl) (fun _ _ _ h => h) (by rfl) ?_ (by assumption) ?_
      rotate_left
      · intro w hSw; (try dsimp only at hSw); go_simp; try (with_reducible rfl)
      try simp only [Act.put, List.setIfInBounds_toArray, List.set_cons_zero, List.set_cons_succ]
      refine GoE.take (i := 5) (v := ?_) rfl (by decide) (by kernel_rfl) (by kernel_rfl) (by kernel_rfl) (by kernel_rfl) (fun _ _ _ h => h) (by rfl) ?_ (by assumption) ?_
      rotate_left
      · intro w hSw; (try dsimp only at hSw); go_simp; try (with_reducible rfl)
      try simp only [Act.put, List.setIfInBounds_toArray, List.set_cons_zero, List.set_cons_succ]
      refine GoE.take (i := 6) (v := ?_) rfl (by decide) (by kernel_rfl) (by kernel_rfl) (by kernel_rfl) (by kernel_rfl) (fun _ _ _ h => h) (by rfl) ?_ (by assumption) ?_
      rotate_left
      · intro w hSw; (try dsimp only at hSw); go_simp; try (with_reducible rfl)
      try simp only [Act.put, List.setIfInBounds_toArray, List.set_cons_zero, List.set_cons_succ]
      refine GoE.take (i := 7) (v := ?_) rfl (by decide) (by kernel_rfl) (by kernel_rfl) (by kernel_rfl) (by kernel_rfl) (fun _ _ _ h => h) (by rfl) ?_ (by assumption) ?_
      rotate_left
      · intro w hSw; (try dsimp only at hSw); go_simp; try (with_reducible rfl)
      try simp only [Act.put, List.setIfInBounds_toArray, List.set_cons_zero, List.set_cons_succ]
      refine GoE.take (i := 8) (v := ?_) rfl (by decide) (by kernel_rfl) (by kernel_rfl) (by kernel_rfl) (by kernel_rfl) (fun _ _ _ h => h) (by rfl) ?_ (by assumption) ?_
      rotate_left
      · intro w hSw; (try dsimp only at hSw); go_simp; try (with_reducible rfl)
      try simp only [Act.put, List.setIfInBounds_toArray, List.set_cons_zero, List.set_cons_succ]
      refine GoE.take (i := 9) (v := ?_) rfl (by decide) (by kernel_rfl) (by kernel_rfl) (by kernel_rfl) (by kernel_rfl) (fun _ _ _ h => h) (by rfl) ?_ (by assumption) ?_
      rotate_left
      · intro w hSw; (try dsimp only at hSw); go_simp; try (with_reducible rfl)
      try simp only [Act.put, List.setIfInBounds_toArray, List.set_cons_zero, List.set_cons_succ]
      refine GoE.take (i := 10) (v := ?_) rfl (by decide) (by kernel_rfl) (by kernel_rfl) (by kernel_rfl) (by kernel_rfl) (fun _ _ _ h => h) (by rfl) ?_ (by assumption) ?_
      rotate_left
      · intro w hSw; (try dsimp only at hSw); go_simp; try (with_reducible rfl)
      try simp only [Act.put, List.setIfInBounds_toArray, List.set_cons_zero, List.set_cons_succ]
      refine GoE.one (i := 11) rfl (by kernel_rfl) (fun K hKK => ?_)
      refine step_append_sl rfl (.tmp 99) (.tmp 105) rfl elem_byte rfl hK rfl hx (bvs_one _) hbb h63 ?_
      intro v6 w6 h10 _
      have h11 := Sl.ofK h10
      rw [← bvs_append] at h11
      obtain ⟨na, nc, rfl, _, _⟩ := Sl.valn h11 (m := en2) (by rw [bvs_len, List.length_append, HCl.out, Hen.out]; exact Hnums.out.2.2.2.2.symm)
      have S1 : w6.cell? ⟨xb, 4, none⟩ = some (.slice ea en ec) := SatL.cell (h11.pull 1 : SatL _ (cl xb _ _ :: _)) (i := 4) rfl
      refine hKK.out _ _ (fun _ => S1) ?_
      clear hKK K S0 hK hx h10
      try simp only [Act.put, List.setIfInBounds_toArray, List.set_cons_zero, List.set_cons_succ]
      refine GoE.take (i := 12) (v := ?_) rfl (by decide) (by kernel_rfl) (by kernel_rfl) (by kernel_rfl) (by kernel_rfl) (fun _ _ _ h => h) (by rfl) ?_ (by assumption) ?_
      rotate_left
      · intro w hSw; (try dsimp only at hSw); go_simp; try (with_reducible rfl)
      try simp only [Act.put, List.setIfInBounds_toArray, List.set_cons_zero, List.set_cons_succ]
      refine GoE.take (i := 13) (v := ?_) rfl (by decide) (by kernel_rfl) (by kernel_rfl) (by kernel_rfl) (by kernel_rfl) (fun _ _ _ h => h) (by rfl) ?_ (by assumption) ?_
      rotate_left
      · intro w hSw; (try dsimp only at hSw); go_simp; try (with_reducible rfl)
      try simp only [Act.put, List.setIfInBounds_toArray, List.set_cons_zero, List.set_cons_succ]
      have f4 := SatL.free (h11.pull 1 : SatL w6 (cl xb _ _ :: _)) 4
      have c4 := S1
      have hset := SatL.set (h11.pull 1 : SatL w6 (cl xb _ _ :: _)) (i := 4) (.slice na en2 nc)
      have H13 := hid hset
      clear hset S1 h11
      refine GoE.one (i := 14) rfl (by kernel_rfl) (fun K hK => ?_)
      go_simp
      refine hK.out _ _ (fun h => absurd rfl h) ?_
      clear hK K
      try simp only [Act.put, List.setIfInBounds_toArray, List.set_cons_zero, List.set_cons_succ]
      refine GoE.done (by kernel_rfl) ?_
      clear f4 c4
      generalize w6.setCell ⟨xb, 4, none⟩ (.slice na en2 nc) = w7 at H13 ⊢
      have h14 : SatL w7 (cl xb RREC #[hv, .int .i64 (left : Int), .bool last, .bool true, .slice na en2 nc, .bool false] :: SlB 5 (.slice na en2 nc) (B ++ CH) :: SlB 5 hv [] :: RowsL u6 outs :: L) := H13.out
      have c1 := SatL.cell (h14 : SatL w7 (cl xb _ _ :: _)) (i := 1) (v := .int .i64 (left : Int)) rfl
      have f1 := SatL.free (h14 : SatL w7 (cl xb _ _ :: _)) 1
      have H15 := hid (SatL.set (h14 : SatL w7 (cl xb _ _ :: _)) (i := 1) (.int .i64 (l' : Int)))
      clear h14 H13 hsl hmin w1f w1g hbb h63
      go_upto_region 23 with fail
      clear c1 f1
      have h16 := H15.out
      generalize w7.setCell ⟨xb, 1, none⟩ (.int .i64 (l' : Int)) = w8 at h16 ⊢
      obtain ⟨x1, x2, x3, x4, x5, x6⟩ := HX.out
      obtain ⟨G, hG⟩ : ∃ G, got ++ CH = G := ⟨_, rfl⟩
      have hBG : B ++ CH = row ++ G := by rw [x2, List.append_assoc, hG]
      have hGl : G.length = got.length + nn := by rw [← hG, List.length_append, HCl.out]
      have hQG : recQ (h4 ++ G ++ b.drop kn) row outs = Q := by rw [← x6, ← hG]; simp only [List.append_assoc]
      rw [hBG] at h16
      have h17 : SatL w8 (cl xb RREC #[hv, .int .i64 (l' : Int), .bool last, .bool true, .slice na en2 nc, .bool false] :: SlB 5 (.slice na en2 nc) (row ++ G) :: SlB 5 hv [] :: RowsL u6 outs :: L) := h16
      have d1 := SatL.cell (h17 : SatL w8 (cl xb _ _ :: _)) (i := 1) (v := .int .i64 (l' : Int)) rfl
      obtain ⟨m1, m2, m3, m4, m5⟩ := Hnums.out
      obtain ⟨q1, q2, q3, q4⟩ := Hkk.out
      clear h16 H15
      by_cases hl0 : 0 < l'
      · have t1 : (0 : Int) < l' := by omega
        have hkb : kn = bl := by omega
        have hq : Q = ⟨h4 ++ G, row, outs, false⟩ := by
          rw [← hQG, show b.drop kn = [] from List.drop_of_length_le (by rw [Hbl.out]; omega), List.append_nil]
          exact recQ_wait x1 (by omega) x5
        have hadd : s.add b = (outs, 0, ⟨h4 ++ G, row, false⟩) := by rw [Hadd.out, hq]; rfl
        have HR := hid (show XRep [] l' last true (row ++ G) (h4 ++ G) row from .inr ⟨rfl, rfl, h4, G, rfl, x1, rfl, by omega, x4, x5, hl0⟩)
        have Hadd2 := hid hadd
        obtain ⟨rs, hrs, h18⟩ := sat_RowsL.1 (h17.pull 3)
        obtain ⟨on, hon⟩ : ∃ on, rs.length = on := ⟨_, rfl⟩
        obtain ⟨oa, oc, rfl, _, _⟩ := Sl.valn (sat_RowsQ.1 h18) (m := on) (by rw [List.length_map]; exact hon)
        have H17 := hid h17
        clear h18 hrs hon hq hadd x1 x2 x3 x4 x5 x6 hG hBG hGl hQG m1 m2 m3 m4 m5 q1 q2 q3 q4 hkb hl0 h17
        go_wp2_with fail
        go_ret2
        refine Ret.mk ⟨.slice oa on oc, by rw [Hadd2.out]; rfl, ?_⟩
        rw [Hadd2.out]
        exact SatL.swap (sat_RefRec.2 ⟨⟨hv, .slice na en2 nc, [], l', last, true, row ++ G⟩, fun _ => HR.out, H17.out.bring [0, 2, 1, 3]⟩)
      · have t1 : ¬ (0 : Int) < l' := by omega
        have hl00 : l' = 0 := by omega
        have hGN : G.length = headN h4 := by omega
        have hkk2 : k < kn := by omega
        have hen22 : en2 ≤ 16384 := by
          have h5 : B.length = row.length + got.length := by rw [x2, List.length_append]
          have := Hen.out
          omega
        have hRG : (row ++ G).length = en2 := by rw [← hBG, List.length_append, Hen.out, HCl.out]; omega
        rw [recQ_done x1 hGN x5] at hQG
        have f3 := SatL.free (h17 : SatL w8 (cl xb _ _ :: _)) 3
        have d3 := SatL.cell (h17 : SatL w8 (cl xb _ _ :: _)) (i := 3) (v := .bool true) rfl
        have h18 := SatL.set (h17 : SatL w8 (cl xb _ _ :: _)) (i := 3) (.bool false)
        have H18 := hid h18
        have HRG := hid hRG
        have X4 := hid x4
        have HQG := hid hQG
        have Hkn := hid (And.intro hkk2 q4)
        have hok : outs.length + 1 ≤ kn := by omega
        clear h17 h18 x1 x2 x3 x4 x5 x6 hG hBG hGl hQG m1 m2 m3 m4 m5 q1 q2 q3 q4 hl0 hGN hkk2 hRG
        go_upto_region 26 with fail
        have h19 := H18.out
        generalize w8.setCell ⟨xb, 3, none⟩ (.bool false) = w9 at h19 ⊢
        have h20 : SatL w9 (cl xb RREC #[hv, .int .i64 (l' : Int), .bool last, .bool false, .slice na en2 nc, .bool false] :: SlB 5 (.slice na en2 nc) (row ++ G) :: SlB 5 hv [] :: RowsL u6 outs :: L) := h19
        clear d1 d3 f3 h19 H18
        have d2 := SatL.cell (h20 : SatL w9 (cl xb _ _ :: _)) (i := 2) (v := .bool last) rfl
        cases last with
        | true =>
          have hq2 : recQ (b.drop kn) [] (outs ++ [row ++ G]) = Q := by have := HQG.out; rw [if_pos (of_decide_eq_true X4.out.symm)] at this; exact this
          have Hq2 := hid hq2
          obtain ⟨rs, hrs, h21⟩ := sat_RowsL.1 (h20.pull 3)
          have h22 := sat_RowsQ.1 h21
          have hol : rs.length = outs.length := by rw [← hrs, List.length_map]
          have hbq : ((rs.map (·.v)).length + 1) * 24 ≤ 140737488355328 := by rw [List.length_map]; omega
          obtain ⟨on, hon⟩ : ∃ on, rs.length + 1 = on := ⟨_, rfl⟩
          obtain ⟨oz, hoz⟩ : ∃ oz, rs.length = oz := ⟨_, rfl⟩
          obtain ⟨oa, oc, rfl, _, _⟩ := Sl.valn h22 (m := oz) (by rw [List.length_map]; exact hoz)
          have Hrs := hid hrs
          have Hon := hid hon
          have H22 := hid h22
          have hgB := RdB.v (SlB.rd (h22.pull 3))
          have c4 := SatL.cell ((h22.pull 2).alloc (.cells #[] 5) |>.pull 1 : SatL _ (cl xb _ _ :: _)) (i := 4) (v := .slice na en2 nc) rfl
          have hgB' := hid hgB
          have he9 : en2 ≤ 1000000000 := by omega
          clear h20 h21 h22 hrs hon hol hoz hq2 hgB
          go_wp2_with (first
            | (at_builtin; refine wpList_newcopy (w := w9) (nb := w9.heap.size) rfl rfl (.tmp 135) (.tmp 139) rfl rfl rfl H22.out HRG.out hgB'.out he9 ?_; intro a4 c4' w10 _ h23; have h24 := h23.pull 1; have f44 := SatL.free (h24.pull 3 : SatL _ (cl xb _ _ :: _)) 4; clear h23)
            | (at_builtin; refine wpList_push_sl (w := w10) rfl (.tmp 134) (.tmp 141) rfl elem_rowb (by omega) rfl h24 rfl rfl hbq ?_; intro v11 w11 h25; obtain ⟨oa2, oc2, rfl, _, _⟩ := Sl.valn h25 (m := on) (by rw [List.length_append, List.length_map]; exact Hon.out); have h26 : SatL w11 (cl xb _ _ :: _) := h25.pull 3; have f1 := SatL.free h26 4; have d4 := SatL.cell h26 (i := 4) (v := .slice na en2 nc) rfl; have H27 := hid (SatL.set h26 (i := 4) (.slice none 0 0)); clear h24 h25 h26 c4))
          go_roundw
          case rel =>
            have h28 := rows_push (H27.out.bring [1, 3, 2, 0, 4, 5])
            rw [Hrs.out] at h28
            exact ⟨kn, outs ++ [row ++ G], [], [], [], [], l', true, false, hv, .slice none 0 0, by go_num, Hkn.out.2, by rw [List.length_append]; exact hok, hid ⟨.inl ⟨rfl, rfl, by simp, rfl⟩, by simp, by rw [List.nil_append]; exact Hq2.out⟩, (Sl_nil (T := 5) ((h28.pull 2).tail)).bring [2, 3, 0, 1]⟩
          case measure => simp [intOf]; have := Hkn.out; omega
        | false =>
          have hq2 : recQ (b.drop kn) (row ++ G) outs = Q := by have := HQG.out; rw [if_neg (of_decide_eq_false X4.out.symm)] at this; exact this
          have Hq2 := hid hq2
          have H20 := hid h20
          clear h20 hq2
          go_wp2_with fail
          go_roundw
          case rel => exact ⟨kn, outs, [], row ++ G, [], row ++ G, l', false, false, hv, .slice na en2 nc, by go_num, Hkn.out.2, by omega, hid ⟨.inl ⟨rfl, rfl, by simp, rfl⟩, by rw [HRG.out]; exact hen22, by rw [List.nil_append]; exact Hq2.out⟩, H20.out.bring [0, 2, 1, 3]⟩
          case measure => simp [intOf]; have := Hkn.out; omega
end
end Go.Proofs.YtpecmkkcepnpeaaDoor
