/- RpcCreds: the law's walk. Condition: errors.errorType's cell holds the type's handle. -/
import Derived.Test.YtpecmkkcepnpeaaDoorRpcT
import Derived.Test.YtpecmkkcepnpeaaDoorRpcArg
namespace Go.Proofs.YtpecmkkcepnpeaaDoor
set_option linter.unusedVariables false
set_option linter.unusedSimpArgs false
open Go.RowKit
theorem RdW.old {w0 : World} {v : Value} {l : List Nat} (h : RdW v l w0) : Gives [old w0] (RdW v l) := fun w hw => by
  rcases h with h | ⟨b, off, h0, h1, h2, h3⟩
  · exact .inl h
  · exact .inr ⟨b, off, h0, h1, h2, fun hl => by obtain ⟨bb, o, e, h4⟩ := h3 hl; exact ⟨bb, o, e, fun i hi => hw.oldCell (h4 i hi)⟩⟩
theorem RdV.old {w0 : World} {v : Value} {l : List UInt8} (h : RdV v l w0) : Gives [old w0] (RdV v l) := fun w hw => by
  rcases h with h | ⟨b, c, h0, h1, h2, h3⟩
  · exact .inl h
  · exact .inr ⟨b, c, h0, h1, h2, fun hl => by obtain ⟨bb, o, e, h4⟩ := h3 hl; exact ⟨bb, o, e, fun i hi => hw.oldCell (h4 i hi)⟩⟩
theorem RdB.old {w0 : World} {v : Value} {l : List UInt8} (h : RdB v l w0) : Gives [old w0] (RdB v l) := fun w hw => by
  rcases h with h | ⟨b, off, c, h0, h1, h2, h3⟩
  · exact .inl h
  · exact .inr ⟨b, off, c, h0, h1, h2, fun i hi => hw.oldCell (h3 i hi)⟩
theorem HndW.old {w0 : World} (h : HndW w0) : Gives [old w0] HndW := fun w hw => hw.oldCell h
section
variable {w : World} {L : List HP}
def cCreds (uid gid : Nat) (gs : List Nat) : CallL := ⟨1, 100003, 3, 1, uid, gid, gs, [0, 0, 0, 9]⟩
theorem cCreds_ok {uid gid : Nat} {gs : List Nat} (h1 : uid < 4294967296) (h2 : gid < 4294967296) (h3 : ∀ g ∈ gs, g < 4294967296) : (cCreds uid gid gs).ok := ⟨by unfold cCreds; dsimp only; omega, h3⟩
theorem cCreds_rd {uid gid : Nat} {gs : List Nat} (h1 : uid < 4294967296) (h2 : gid < 4294967296) (h3 : ∀ g ∈ gs, g < 4294967296) : readL (cCreds uid gid gs).bytes = .good ⟨1, 100003, 3, 1, uid, gid, gs.take 16, [0, 0, 0, 9]⟩ := by
  rw [readL_bytes (cCreds_ok h1 h2 h3)]
  rw [if_neg (by show ¬ (knownL 100003 3 1).1 ≠ 0; decide)]
  rfl
theorem cNone_rd {uid gid : Nat} {gs : List Nat} : readL ((cCreds uid gid gs).bytes.take 24 ++ [0, 0, 0, 0, 0, 0, 0, 0, 0, 0, 0, 0, 0, 0, 0, 0, 0, 0, 0, 9]) = .good ⟨1, 100003, 3, 1, 65534, 65534, [], [0, 0, 0, 9]⟩ := by
  have e : (cCreds uid gid gs).bytes.take 24 ++ [0, 0, 0, 0, 0, 0, 0, 0, 0, 0, 0, 0, 0, 0, 0, 0, 0, 0, 0, 9] = be4 [1, 0, 2, 100003, 3, 1, 0] ++ hib 4 ([] : List UInt8).length ++ ([] : List UInt8) ++ be4 [0, 0] ++ [0, 0, 0, 9] := by
    unfold CallL.bytes
    rw [List.append_assoc, List.append_assoc, List.append_assoc, List.take_append_of_le_length (by rw [be4_len]; simp)]
    show (be4 [1, 0, 2, 100003, 3, 1, 1]).take 24 ++ _ = _
    decide +kernel
  rw [e, readL_at (by omega) (by omega) (by omega) (by omega) (by omega) (by decide) (by decide)]
  rw [if_neg (by decide), if_neg (by decide)]
  rfl
theorem emptyB (h : SatL w L) : SatL (w.alloc (.cells #[] 5)) (SlK 5 1 (.slice (some ⟨w.heap.size, 0, none⟩) 0 0) 0 [] :: L) :=
  sat_SlK.2 (.inr ⟨w.heap.size, 0, 0, #[], ⟨rfl, Nat.le_refl _, by decide, rfl, by simp, rfl⟩, h.alloc _⟩)
/-- s[:j] as a run fact -/
theorem RdB.upto {v : Value} {b : List UInt8} {j : Nat} (h : RdB v b w) (hj : j ≤ b.length) (h0 : 0 < b.length) : ∃ v', (∀ w', (Instr.sliceAt 27 v none (some (.int .i64 (j : Int))) none).run Tryd.prog w' = .ok v' w') ∧ ∀ w', RdB v b w' → RdB v' (b.take j) w' := by
  have hu : Tryd.prog.underlying 27 = some (.slice (Tryd.prog.elem 27)) := by kernel_rfl
  rcases h with ⟨rfl, rfl⟩ | ⟨bb, off, c, rfl, h1, h2, h3⟩
  · simp at h0
  · refine ⟨.slice (some ⟨bb, off, none⟩) j c, fun w' => ?_, fun w' h' => ?_⟩
    · have hz : (sizeOf (Tryd.prog.elem 27)).run Tryd.prog w' = .ok 1 w' := by kernel_rfl
      rw [run_sliceAt_slice _ _ _ _ _ _ hu, run_slice_h _ _ _ _ _ hu .i64 (j : Int) (by omega) (by omega), hz]
      simp only [Result.andThen, sliced, Int.toNat_natCast, Option.map_some, Nat.mul_one, addr_add, Nat.zero_mul, Nat.add_zero, Nat.sub_zero, ite_self]
    · have := RdB.sub h' (Nat.zero_le j) hj
      simpa using this
theorem writeCreds {c0 uid gid : Nat} {gs : List Nat} {gv : Value} {X : List HP} (ok : (cCreds uid gid gs).ok) (h : SatL w (pt c0 (.cells #[.int .u8 0, .int .u8 0, .int .u8 0, .int .u8 9] 5) :: X)) (g : Gives X (RdW gv gs)) :
    Calls Tryd.prog 13 #[.agg #[.int .u32 1, .int .u32 100003, .int .u32 3, .int .u32 1, .int .u32 (uid : Int), .int .u32 (gid : Int), gv, .slice (some ⟨c0, 0, none⟩) 4 4]] w (Ret fun v w' => SatL w' (SlB 5 v (cCreds uid gid gs).bytes :: pt c0 (.cells #[.int .u8 0, .int .u8 0, .int .u8 0, .int .u8 9] 5) :: X)) := by
  have h1 := write_ok (c := cCreds uid gid gs) (gv := gv) (bv := .slice (some ⟨c0, 0, none⟩) 4 4) ok (by show 4 ≤ 10000000; omega) h (fun w' h' => g w' h'.tail) (fun w' h' => RdB.v (RdB.ofPt (n := 4) (c := 4) (l := [0, 0, 0, 9]) h' rfl rfl (by decide) (by omega)))
  exact h1
theorem min16 {gs : List Nat} {gn : Nat} (h : (gs.take 16).length = gn) : ∀ w : World, (Builtin.min_ #[3, 3] 3 #[.int .i64 16, .int .i64 (gs.length : Int)]).run Tryd.prog w = .ok (.int .i64 (gn : Int)) w := fun w => by
  have e : (Builtin.min_ #[3, 3] 3 #[.int .i64 16, .int .i64 (gs.length : Int)]).run Tryd.prog w = .ok (.int .i64 (if (gs.length : Int) < 16 then (gs.length : Int) else 16)) w := rfl
  rw [List.length_take] at h
  rw [e]
  by_cases h2 : gs.length < 16
  · rw [if_pos (by omega), show gn = gs.length by omega]
  · rw [if_neg (by omega), show gn = 16 by omega]; rfl
theorem exHL {l : List HP} {F : World → Prop} (h : SatL w l) (hF : ∀ w', SatL w' l → F w') : ∃ HL, SatL w HL ∧ ∀ w', SatL w' HL → F w' := ⟨l, h, hF⟩
theorem credsF {w0 : World} {c6 b0 gn pc : Nat} {gs : List Nat} {pa ga : Option Addr} {gc : Nat} {cs ds : Array Value} {R1 R2 R3 : HP} (hgn : (gs.take 16).length = gn) (hR : Gives [old w0] (RdW (.slice ga gs.length gc) gs)) (hc : cs[6]? = some (.slice pa gn pc)) (hd : ds[2]? = some (.slice ga gs.length gc))
    (h' : SatL w [pt c6 (.cells cs 30), Sl 22 (.slice pa gn pc) ((gs.take 16).map u32v), R1, R2, R3, pt b0 (.cells ds 25), old w0]) :
    (w.cell? ⟨c6, 6, none⟩ = some (.slice pa gn pc) ∧ w.cell? ⟨b0, 2, none⟩ = some (.slice ga gs.length gc) ∧ ∀ k, k < gn → ∃ pb po gb go x, pa = some ⟨pb, po, none⟩ ∧ ga = some ⟨gb, go, none⟩ ∧ w.cell? ⟨pb, po + k, none⟩ = some (.int .u32 x) ∧ w.cell? ⟨gb, go + k, none⟩ = some (.int .u32 x)) ∧ SatL w [old w0] := by
  refine ⟨⟨SatL.cell (h' : SatL w (cl c6 _ _ :: _)) (i := 6) hc, SatL.cell (h'.pull 5 : SatL w (cl b0 _ _ :: _)) (i := 2) hd, fun k hk => ?_⟩, h'.tail.tail.tail.tail.tail.tail⟩
  rw [List.length_take] at hgn
  have hk2 : k < gs.length := by omega
  have hs1 : SatL w (Sl 22 (.slice pa gn pc) ((gs.take 16).map u32v) :: _) := h'.pull 1
  obtain ⟨pb, po, rfl⟩ := Sl.addr hs1 (by omega)
  obtain ⟨_, _, _, gb, go, rfl, hgc⟩ := (hR w h'.tail.tail.tail.tail.tail.tail).at (by omega)
  refine ⟨pb, po, gb, go, _, rfl, rfl, ?_, hgc k hk2⟩
  refine Sl.cell hs1 ?_
  rw [List.getElem?_map, List.getElem?_take_of_lt (by omega), List.getElem?_eq_getElem hk2]
  simp [List.getD, List.getElem?_eq_getElem hk2, u32v]
set_option maxRecDepth 100000 in
set_option maxHeartbeats 4000000 in
theorem creds_walk {uid gid : Nat} {gs : List Nat} {gv : Value} (no : Bool) (w : World) (h1 : uid < 4294967296) (h2 : gid < 4294967296) (h3 : ∀ g ∈ gs, g < 4294967296) (hr : RdW gv gs w) (hH : HndW w) :
    Calls Tryd.prog 3 #[.agg #[.int .u32 (uid : Int), .int .u32 (gid : Int), gv], .bool no] w (Ret fun v w' => v = .bool true ∧ SatL w' [old w]) := by
  obtain ⟨ga, gc, rfl, g1, g2⟩ := hr.valn
  have h0 := (sat_old w).alloc (.cells #[.int .u32 (uid : Int), .int .u32 (gid : Int), .slice ga gs.length gc] 25)
  have kK := known_ok h0 (fun w' h' => hH.old w' h'.tail)
  have HH := hid hH.old
  have HR := hid hr.old
  have hok := cCreds_ok h1 h2 h3
  have hrd := cCreds_rd h1 h2 h3
  have Hok := hid hok
  have Hrd := hid hrd
  clear h0 hH hr hok hrd
  by_cases hl : 200 < gs.length
  · have hl2 : (200 : Int) < gs.length := by omega
    clear hl
    go_enter Tryd.func3, Tryd.ntmps3
    go_wp2_with (first
      | (go_at_call 12; (with_reducible refine kK.mono ?_); rintro ev w1 ⟨q, rfl, rfl, hs⟩; have x2 := SatL.cell (hs : SatL w1 (cl _ _ _ :: _)) (i := 2) (v := .slice ga gs.length gc) rfl))
    go_ret
    exact Ret.mk ⟨rfl, hs.tail⟩
  · have hl2 : ¬ (200 : Int) < gs.length := by omega
    have hb1 : (200 < gs.length) = False := by simp; omega
    have hb2 : ((200 : Int) < gs.length) = False := by simp; omega
    have hb3 : (gs.length ≤ 200) = True := by simp; omega
    clear hl hl2 h3
    go_enter Tryd.func3, Tryd.ntmps3
    go_upto_region 5 with (first
      | (go_at_call 12; (with_reducible refine kK.mono ?_); rintro ev w1 ⟨q, rfl, rfl, hs⟩; have x2 := SatL.cell (hs : SatL w1 (cl _ _ _ :: _)) (i := 2) (v := .slice ga gs.length gc) rfl))
    have x0 := SatL.cell (hs : SatL w1 (cl _ _ _ :: _)) (i := 0) (v := .int .u32 (uid : Int)) rfl
    have x1 := SatL.cell (hs : SatL w1 (cl _ _ _ :: _)) (i := 1) (v := .int .u32 (gid : Int)) rfl
    have h4 := hs.alloc (.cells #[.int .u8 0, .int .u8 0, .int .u8 0, .int .u8 9] 5)
    have kw := writeCreds Hok.out h4 (fun w' h' => HR.out w' h'.tail)
    clear hs h4 kK
    obtain ⟨b0, hb0⟩ : ∃ b0, b0 = w.heap.size := ⟨_, rfl⟩
    rw [← hb0] at kw x0 x1 x2 ⊢
    clear hb0
    obtain ⟨CB, hCB⟩ : ∃ CB, CB = (cCreds uid gid gs).bytes := ⟨_, rfl⟩
    have hCl : 24 ≤ CB.length ∧ CB.length ≤ 1000 := by
      rw [hCB]
      unfold CallL.bytes
      simp only [List.length_append, be4_len, hib_len, CallL.who_len, List.length_take, List.length_cons, List.length_nil, cCreds]
      omega
    rw [← hCB] at kw
    have HCB := hid hCB
    clear hCB
    obtain ⟨cn, hcn⟩ : ∃ cn, CB.length = cn := ⟨_, rfl⟩
    cases no with
    | false =>
      go_upto_region 8 with (first
        | (go_at_call 13; (with_reducible refine kw.mono ?_); rintro ev w3 ⟨q, rfl, h5⟩; obtain ⟨ca, cc, rfl, _, _⟩ := Sl.valn h5 (m := cn) (by simp [hcn])))
      have kp := parse_ok (b := CB) (by omega) h5 (fun w' h' => SlB.rd h') (fun w' h' => HH.out w' h'.tail.tail.tail)
      have hrr : readL CB = .good ⟨1, 100003, 3, 1, uid, gid, gs.take 16, [0, 0, 0, 9]⟩ := by rw [HCB.out]; exact Hrd.out
      rw [hrr] at kp
      clear hrr
      obtain ⟨gn, hgn⟩ : ∃ gn, (gs.take 16).length = gn := ⟨_, rfl⟩
      go_upto_region 9 with (first
        | (go_at_call 14; (with_reducible refine kp.mono ?_); rintro ev w4 ⟨q, rfl, gv, bv, hv, h6⟩; obtain ⟨pa, pc, rfl, _, _⟩ := Sl.valn h6 (m := gn) (by rw [List.length_map]; exact hgn); obtain ⟨ba, bc, rfl, _, _⟩ := Sl.valn h6.tail (m := 4) rfl; replace hv : q = .tuple #[.agg #[.int .u32 1, .int .u32 100003, .int .u32 3, .int .u32 1, .int .u32 (uid : Int), .int .u32 (gid : Int), .slice pa gn pc, .slice ba 4 bc], .nilIface] := hv; subst hv; clear kp))
      have h7 := h6.alloc (.cells #[.int .u32 1, .int .u32 100003, .int .u32 3, .int .u32 1, .int .u32 (uid : Int), .int .u32 (gid : Int), .slice pa gn pc, .slice ba 4 bc] 30)
      have Hgn := hid hgn
      clear kw hgn hcn h5 h6
      generalize w4.alloc _ = w5 at h7 ⊢
      generalize w4.heap.size = c6 at h7 ⊢
      obtain ⟨z0, z1, z2, z3, z4, z5, z6, z7⟩ := cell8g (h7 : SatL w5 (cl c6 30 #[.int .u32 1, .int .u32 100003, .int .u32 3, .int .u32 1, .int .u32 (uid : Int), .int .u32 (gid : Int), .slice pa gn pc, .slice ba 4 bc] :: _))
      have hcv : (convert 27 9 (.slice ba 4 bc)).run Tryd.prog w5 = .ok (.string ⟨#[0, 0, 0, 9]⟩) w5 := RdB.conv (SlB.rd (h7.pull 2 : SatL w5 (SlB 5 (.slice ba 4 bc) _ :: _)))
      have hb : SatL w5 (cl b0 25 #[.int .u32 (uid : Int), .int .u32 (gid : Int), .slice ga gs.length gc] :: _) := h7.pull 5
      have y0 := SatL.cell (hb : SatL w5 (cl _ _ _ :: _)) (i := 0) (v := .int .u32 (uid : Int)) rfl
      have y1 := SatL.cell (hb : SatL w5 (cl _ _ _ :: _)) (i := 1) (v := .int .u32 (gid : Int)) rfl
      have y2 := SatL.cell (hb : SatL w5 (cl _ _ _ :: _)) (i := 2) (v := .slice ga gs.length gc) rfl
      clear x0 x1 x2 hb hb1 hb2 hb3
      have hmin := min16 Hgn.out
      obtain ⟨HL, hHL, hF⟩ := exHL h7 (fun w' h' => credsF Hgn.out HR.out rfl rfl h')
      have HF := hid hF
      have hgn2 : gn ≤ gs.length := by have := Hgn.out; rw [List.length_take] at this; omega
      clear hF h7 h1 h2 HCB hCl
      go_upto_region 15 with fail
      clear z0 z1 z2 z3 z4 z5 z6 z7 y0 y1 y2 hcv hmin
      go_upto_block 0 with fail
      go_wp2_with fail
      go_loopw [8] (fun i wr => ∃ k : Nat, k ≤ gn ∧ i = .int .i64 k ∧ SatL wr HL) (fun i _ => gn - (intOf i).toNat)
      case atStart => exact ⟨0, by omega, rfl, hHL⟩
      case round =>
        obtain ⟨k, hk, rfl, hwr⟩ := hrel
        obtain ⟨⟨y6, y2, hel⟩, hold⟩ := HF.out _ hwr
        by_cases hlt : k < gn
        · obtain ⟨pb, po, gb, go, x, rfl, rfl, e1, e2⟩ := hel k hlt
          have hlt2 : k < gs.length := by omega
          have hlt3 : (k : Int) < gn := by omega
          have hlt4 : (k : Int) < gs.length := by omega
          have hw1 : IntKind.i64.wrap ((k : Int) + 1) = ((k + 1 : Nat) : Int) := by rw [IntWalk.i64_in _ (by omega)]; omega
          have Hwr := hid hwr
          clear hwr hel hold
          go_wp2
          go_quiet (fail)
          go_wp2
          go_roundw
          case rel => exact ⟨k + 1, by omega, by go_num, sat_drewM.2 Hwr.out⟩
          case measure => simp [intOf]; omega
        · obtain rfl : k = gn := by omega
          have Hold := hid hold
          clear hel hwr hold
          go_wp2
          go_ret
          exact Ret.mk ⟨rfl, Hold.out⟩
    | true =>
      go_upto_region 7 with (first
        | (go_at_call 13; (with_reducible refine kw.mono ?_); rintro ev w3 ⟨q, rfl, h5⟩; obtain ⟨ca, cc, rfl, _, _⟩ := Sl.valn h5 (m := cn) (by simp [hcn])))
      obtain ⟨sv, hsv, gsv⟩ := (SlB.rd h5).upto (j := 24) hCl.1 (by omega)
      obtain ⟨sn, hsn⟩ : ∃ sn, (CB.take 24).length = sn := ⟨_, rfl⟩
      have hsb := gsv w3 (SlB.rd h5)
      obtain ⟨sa, sc, rfl, _, _⟩ := hsb.valn
      have h8 := emptyB h5
      have hx1 := SrcOk.ofRdB (gsv _ (SlB.rd h8.tail))
      have hbb1 : (0 + (CB.take 24).length) * 1 ≤ 140737488355328 := by rw [List.length_take]; omega
      have hm1 : 0 + (CB.take 24).length ≤ maxLen := by unfold maxLen; rw [List.length_take]; omega
      have hbb2 : (sn + 20) * 1 ≤ 140737488355328 := by rw [← hsn, List.length_take]; omega
      have hm2 : sn + 20 ≤ maxLen := by unfold maxLen; rw [← hsn, List.length_take]; omega
      rw [hsn] at hsv hx1 hbb1 hm1
      have Hsn := hid hsn
      have HCl := hid hCl
      replace hsv : ∀ w' : World, (Instr.sliceAt 27 (.slice ca cn cc) none (some (.int .i64 24)) none).run Tryd.prog w' = .ok (.slice sa sn sc) w' := hsv
      clear hsb gsv hsn kw h5 x0 x1 x2 hb1 hb2 hb3 h1 h2 hCl
      go_upto_region 8 with (first
        | (at_builtin; refine wpList_append_sl rfl (.tmp 20) (.tmp 22) rfl elem_byte rfl h8 rfl hx1 (bvs_one _) hbb1 hm1 ?_; intro v5 w5 h9 _; have h10 := Sl.ofK h9; rw [List.nil_append] at h10; obtain ⟨ta, tc, rfl, _, _⟩ := Sl.valn h10 (m := sn) (by rw [bvs_len]; exact Hsn.out); have h11 := h10.alloc (.cells #[.int .u8 0, .int .u8 0, .int .u8 0, .int .u8 0, .int .u8 0, .int .u8 0, .int .u8 0, .int .u8 0, .int .u8 0, .int .u8 0, .int .u8 0, .int .u8 0, .int .u8 0, .int .u8 0, .int .u8 0, .int .u8 0, .int .u8 0, .int .u8 0, .int .u8 0, .int .u8 9] 5); have hK2 := Sl.toK (n := sn) h11.swap (by rw [bvs_len]; exact Hsn.out); have hx2 := SrcOk.ofRdB (RdB.ofPt (n := 20) (c := 20) (l := [0, 0, 0, 0, 0, 0, 0, 0, 0, 0, 0, 0, 0, 0, 0, 0, 0, 0, 0, 9]) h11 rfl rfl (by omega) (by omega)); clear h8 h9 h10 hx1)
        | (at_builtin; refine wpList_append_sl rfl (.tmp 23) (.tmp 24) rfl elem_byte rfl hK2 rfl hx2 (bvs_one _) hbb2 hm2 ?_; intro v6 w6 h12 _; have h13 := Sl.ofK h12; rw [← bvs_append] at h13; obtain ⟨un, hun⟩ : ∃ un, (CB.take 24 ++ [0, 0, 0, 0, 0, 0, 0, 0, 0, 0, 0, 0, 0, 0, 0, 0, 0, 0, 0, 9]).length = un := ⟨_, rfl⟩; obtain ⟨ua, uc, rfl, _, _⟩ := Sl.valn h13 (m := un) (by rw [bvs_len]; exact hun); have Hun := hid hun; clear hun hK2 hx2 h11 h12))
      have kp := parse_ok (b := CB.take 24 ++ [0, 0, 0, 0, 0, 0, 0, 0, 0, 0, 0, 0, 0, 0, 0, 0, 0, 0, 0, 9]) (by rw [List.length_append, List.length_take]; have := HCl.out; simp only [List.length_cons, List.length_nil]; omega) h13 (fun w' h' => SlB.rd h') (fun w' h' => HH.out w' h'.tail.tail.tail.tail.tail)
      have hrr : readL (CB.take 24 ++ [0, 0, 0, 0, 0, 0, 0, 0, 0, 0, 0, 0, 0, 0, 0, 0, 0, 0, 0, 9]) = .good ⟨1, 100003, 3, 1, 65534, 65534, [], [0, 0, 0, 9]⟩ := by rw [HCB.out]; exact cNone_rd
      rw [hrr] at kp
      clear hrr hbb1 hbb2 hm1 hm2 hsv
      go_upto_region 9 with (first
        | (go_at_call 14; (with_reducible refine kp.mono ?_); rintro ev w4 ⟨q, rfl, gv, bv, hv, h6⟩; obtain ⟨pa, pc, rfl, _, _⟩ := Sl.valn h6 (m := 0) rfl; obtain ⟨ba, bc, rfl, _, _⟩ := Sl.valn h6.tail (m := 4) rfl; replace hv : q = .tuple #[.agg #[.int .u32 1, .int .u32 100003, .int .u32 3, .int .u32 1, .int .u32 65534, .int .u32 65534, .slice pa 0 pc, .slice ba 4 bc], .nilIface] := hv; subst hv; clear kp))
      have h7 := h6.alloc (.cells #[.int .u32 1, .int .u32 100003, .int .u32 3, .int .u32 1, .int .u32 65534, .int .u32 65534, .slice pa 0 pc, .slice ba 4 bc] 30)
      clear h6 h13
      generalize w4.alloc _ = w5 at h7 ⊢
      generalize w4.heap.size = c6 at h7 ⊢
      obtain ⟨z0, z1, z2, z3, z4, z5, z6, z7⟩ := cell8g (h7 : SatL w5 (cl c6 30 #[.int .u32 1, .int .u32 100003, .int .u32 3, .int .u32 1, .int .u32 65534, .int .u32 65534, .slice pa 0 pc, .slice ba 4 bc] :: _))
      have hcv : (convert 27 9 (.slice ba 4 bc)).run Tryd.prog w5 = .ok (.string ⟨#[0, 0, 0, 9]⟩) w5 := RdB.conv (SlB.rd (h7.pull 2 : SatL w5 (SlB 5 (.slice ba 4 bc) _ :: _)))
      have Hold := hid (h7.tail.tail.tail.tail.tail.tail.tail.tail : SatL w5 [old w])
      clear h7
      go_wp2_with fail
      go_ret
      exact Ret.mk ⟨rfl, Hold.out⟩
end
end Go.Proofs.YtpecmkkcepnpeaaDoor
