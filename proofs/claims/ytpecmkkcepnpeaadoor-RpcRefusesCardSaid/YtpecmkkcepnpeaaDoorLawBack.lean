/- RpcBack: the law's walk. Condition: errors.errorType's cell holds the type's handle. -/
import Derived.Test.YtpecmkkcepnpeaaDoorLawSame
import Derived.Test.YtpecmkkcepnpeaaDoorRpcU
import Derived.Test.YtpecmkkcepnpeaaDoorRpcArgB
namespace Go.Proofs.YtpecmkkcepnpeaaDoor
set_option linter.unusedVariables false
set_option linter.unusedSimpArgs false
open Go.RowKit
section
variable {w : World} {L : List HP}
theorem RdW.take {a : Option Addr} {n c m : Nat} {l : List Nat} (h : RdW (.slice a n c) l w) (hm : m ≤ l.length) : RdW (.slice a m c) (l.take m) w := RdW.pre h hm
theorem run_to16 {b off n c : Nat} (hc : 16 ≤ c) : ∀ w' : World, (Instr.sliceAt 23 (.slice (some ⟨b, off, none⟩) n c) none (some (.int .i64 16)) none).run Tryd.prog w' = .ok (.slice (some ⟨b, off, none⟩) 16 c) w' := fun w' => by
  have hu : Tryd.prog.underlying 23 = some (.slice (Tryd.prog.elem 23)) := by kernel_rfl
  have hz : (sizeOf (Tryd.prog.elem 23)).run Tryd.prog w' = .ok 1 w' := by kernel_rfl
  rw [run_sliceAt_slice _ _ _ _ _ _ hu, run_slice_h _ _ _ _ _ hu .i64 16 (by omega) (by omega), hz]
  simp [Result.andThen, sliced, addr_add]
def cBack (xi p2 q6 ui gi : Nat) (gs : List Nat) (bo : List UInt8) : CallL := ⟨xi, p2, 3, q6, ui, gi, gs, bo⟩
theorem cBack_ok {xi p2 q6 ui gi : Nat} {gs : List Nat} {bo : List UInt8} (h : xi < 4294967296 ∧ p2 < 4294967296 ∧ q6 < 4294967296 ∧ ui < 4294967296 ∧ gi < 4294967296) (hg : ∀ g ∈ gs, g < 4294967296) : (cBack xi p2 q6 ui gi gs bo).ok := ⟨by unfold cBack; dsimp only; omega, hg⟩
theorem cBack_rd {xi p2 q6 ui gi : Nat} {gs : List Nat} {bo : List UInt8} (ok : (cBack xi p2 q6 ui gi gs bo).ok) (hg : gs.length ≤ 16) (hk : (p2 = 100003 ∨ p2 = 100005) ∧ q6 ≤ 5) : readL (cBack xi p2 q6 ui gi gs bo).bytes = .good (cBack xi p2 q6 ui gi gs bo) := by
  rw [readL_bytes ok]
  have e : (knownL (cBack xi p2 q6 ui gi gs bo).prog (cBack xi p2 q6 ui gi gs bo).vers (cBack xi p2 q6 ui gi gs bo).proc).1 = 0 := by
    show (knownL p2 3 q6).1 = 0
    unfold knownL
    rw [if_pos (by omega), if_neg (by omega), if_neg (by split <;> omega)]
  rw [e, if_neg (by simp)]
  have e2 : (cBack xi p2 q6 ui gi gs bo).gids.take 16 = gs := List.take_of_length_le hg
  rw [e2]
  rfl
theorem writeBack {xi p2 q6 ui gi : Nat} {gs : List Nat} {bo : List UInt8} {gv bv : Value} (ok : (cBack xi p2 q6 ui gi gs bo).ok) (hb : bo.length ≤ 10000000) (h : SatL w L) (g : Gives L (RdW gv gs)) (gb : Gives L (RdV bv bo)) :
    Calls Tryd.prog 13 #[.agg #[.int .u32 (xi : Int), .int .u32 (p2 : Int), .int .u32 3, .int .u32 (q6 : Int), .int .u32 (ui : Int), .int .u32 (gi : Int), gv, bv]] w (Ret fun v w' => SatL w' (SlB 5 v (cBack xi p2 q6 ui gi gs bo).bytes :: L)) := by
  have h1 := write_ok (c := cBack xi p2 q6 ui gi gs bo) (gv := gv) (bv := bv) ok hb h g gb
  exact h1
set_option maxRecDepth 100000 in
set_option maxHeartbeats 8000000 in
theorem back_walk {xi pr ve po ui gi xid : Nat} {gs : List Nat} {bo body : List UInt8} {gv bv v : Value} (w : World) (hc : xi < 4294967296 ∧ pr < 4294967296 ∧ ve < 4294967296 ∧ po < 4294967296 ∧ ui < 4294967296 ∧ gi < 4294967296) (hgs : ∀ g ∈ gs, g < 4294967296) (hx : xid < 4294967296)
    (hg : RdW gv gs w) (hb : RdV bv bo w) (hv : RdV v body w) (hH : HndW w) :
    Calls Tryd.prog 9 #[.agg (callC xi pr ve po ui gi gv bv), .int .u32 (xid : Int), v] w (Ret fun q w' => q = .bool true ∧ SatL w' [old w]) := by
  obtain ⟨gn, hgn⟩ : ∃ gn, gs.length = gn := ⟨_, rfl⟩
  obtain ⟨bn, hbn⟩ : ∃ bn, bo.length = bn := ⟨_, rfl⟩
  obtain ⟨vn, hvn⟩ : ∃ vn, body.length = vn := ⟨_, rfl⟩
  obtain ⟨ga, gc, rfl, p1, p2⟩ := hg.valn
  obtain ⟨ba, bc, rfl, _, _⟩ := hb.valn
  obtain ⟨va, vc, rfl, _, _⟩ := hv.valn
  rw [hgn] at hg p1 ⊢
  rw [hbn] at hb ⊢
  rw [hvn] at hv ⊢
  have h0 := (sat_old w).alloc (.cells (callC xi pr ve po ui gi (.slice ga gn gc) (.slice ba bn bc)) 30)
  have kK := known_ok h0 (fun w' h' => hH.old w' h'.tail)
  have HH := hid hH.old
  have HG := hid hg.old
  have HB := hid hb.old
  have HV := hid hv.old
  have Hgs := hid hgs
  have Hc := hid hc
  have Hx := hid hx
  clear hH hg hb hv hgs hc hx h0
  by_cases hl : 16384 < bn ∨ 16384 < vn
  · go_enter Tryd.func9, Tryd.ntmps9
    by_cases hl1 : 16384 < bn
    · have t1 : ((16384 : Int) < (bn : Int)) = True := by simp; omega
      have t2 : (16384 < bn) = True := by simp; omega
      clear hl hl1
      go_wp2_with (first
        | (go_at_call 12; (with_reducible refine kK.mono ?_); rintro ev w1 ⟨q, rfl, rfl, hs⟩; have x7 := SatL.cell (hs : SatL w1 (cl _ _ _ :: _)) (i := 7) (v := .slice ba bn bc) rfl))
      go_ret
      exact Ret.mk ⟨rfl, hs.tail⟩
    · have t1 : ((16384 : Int) < (bn : Int)) = False := by simp; omega
      have t2 : (16384 < bn) = False := by simp; omega
      have t3 : ((16384 : Int) < (vn : Int)) = True := by simp; omega
      have t4 : (16384 < vn) = True := by simp; omega
      clear hl hl1
      go_wp2_with (first
        | (go_at_call 12; (with_reducible refine kK.mono ?_); rintro ev w1 ⟨q, rfl, rfl, hs⟩; have x7 := SatL.cell (hs : SatL w1 (cl _ _ _ :: _)) (i := 7) (v := .slice ba bn bc) rfl))
      go_ret
      exact Ret.mk ⟨rfl, hs.tail⟩
  · have t1 : ((16384 : Int) < (bn : Int)) = False := by simp; omega
    have t2 : (16384 < bn) = False := by simp; omega
    have t3 : ((16384 : Int) < (vn : Int)) = False := by simp; omega
    have t4 : (16384 < vn) = False := by simp; omega
    have hbn16 : bn ≤ 16384 ∧ vn ≤ 16384 := by omega
    have Hbn16 := hid hbn16
    clear hl hbn16
    go_enter Tryd.func9, Tryd.ntmps9
    go_upto_region 5 with (first
      | (go_at_call 12; (with_reducible refine kK.mono ?_); rintro ev w1 ⟨q, rfl, rfl, hs⟩; have x7 := SatL.cell (hs : SatL w1 (cl _ _ _ :: _)) (i := 7) (v := .slice ba bn bc) rfl))
    generalize w.heap.size = c3 at hs x7 ⊢
    have hc3' : SatL w1 (cl c3 30 #[.int .u32 (xi : Int), .int .u32 (pr : Int), .int .u32 (ve : Int), .int .u32 (po : Int), .int .u32 (ui : Int), .int .u32 (gi : Int), .slice ga gn gc, .slice ba bn bc] :: _) := hs
    have x1 := SatL.cell (hc3' : SatL w1 (cl _ _ _ :: _)) (i := 1) (v := .int .u32 (pr : Int)) rfl
    have f1 := SatL.free (hc3' : SatL w1 (cl _ _ _ :: _)) 1
    have x2 := SatL.cell (hc3' : SatL w1 (cl _ _ _ :: _)) (i := 2) (v := .int .u32 (ve : Int)) rfl
    have f2 := SatL.free (hc3' : SatL w1 (cl _ _ _ :: _)) 2
    have x3 := SatL.cell (hc3' : SatL w1 (cl _ _ _ :: _)) (i := 3) (v := .int .u32 (po : Int)) rfl
    have f3 := SatL.free (hc3' : SatL w1 (cl _ _ _ :: _)) 3
    have x6 := SatL.cell (hc3' : SatL w1 (cl _ _ _ :: _)) (i := 6) (v := .slice ga gn gc) rfl
    have h2 := SatL.set (SatL.set (SatL.set hc3' (i := 1) (.int .u32 (100003 + 2 * ((pr : Int) % 2)))) (i := 2) (.int .u32 3)) (i := 3) (.int .u32 ((po : Int) % 6))
    obtain ⟨p2', hp2'⟩ : ∃ p2' : Nat, (100003 + 2 * ((pr : Int) % 2)) = (p2' : Int) := ⟨100003 + 2 * (pr % 2), by omega⟩
    obtain ⟨q6, hq6⟩ : ∃ q6 : Nat, (po : Int) % 6 = (q6 : Int) := ⟨po % 6, by omega⟩
    have h3 : SatL _ (cl c3 30 #[.int .u32 (xi : Int), .int .u32 (100003 + 2 * ((pr : Int) % 2)), .int .u32 3, .int .u32 ((po : Int) % 6), .int .u32 (ui : Int), .int .u32 (gi : Int), .slice ga gn gc, .slice ba bn bc] :: _) := h2
    have H3 := hid h3
    have Hp2 := hid hp2'
    have Hq6 := hid hq6
    clear t1 t2 t3 t4 x7 h2 h3 hp2' hq6 hs hc3' kK
    go_upto_region 8 with fail
    have h3 := H3.out
    generalize (((w1.setCell ⟨c3, 1, none⟩ (.int .u32 (100003 + 2 * ((pr : Int) % 2)))).setCell ⟨c3, 2, none⟩ (.int .u32 3)).setCell ⟨c3, 3, none⟩ (.int .u32 ((po : Int) % 6))) = w3 at h3 ⊢
    rw [Hp2.out, Hq6.out] at h3 ⊢
    have hpq : (p2' = 100003 ∨ p2' = 100005) ∧ q6 ≤ 5 := by have := Hp2.out; have := Hq6.out; omega
    have y6 := SatL.cell (h3 : SatL w3 (cl _ _ _ :: _)) (i := 6) (v := .slice ga gn gc) rfl
    have fy6 := SatL.free (h3 : SatL w3 (cl _ _ _ :: _)) 6
    have Hpq := hid hpq
    clear H3 x1 x2 x3 x6 f1 f2 f3 hpq
    go_upto_if 41 with fail
    go_cut [6] from 41 to 47 (fun _ wx => ∃ (ga' : Option Addr) (gn' gc' : Nat) (gs' : List Nat), gs'.length = gn' ∧ gn' ≤ 16 ∧ Hid (∀ g ∈ gs', g < 4294967296) ∧ Hid (Gives [old w] (RdW (.slice ga' gn' gc') gs')) ∧ SatL wx (cl c3 30 #[.int .u32 (xi : Int), .int .u32 (p2' : Int), .int .u32 3, .int .u32 (q6 : Int), .int .u32 (ui : Int), .int .u32 (gi : Int), .slice ga' gn' gc', .slice ba bn bc] :: [old w]))
    case first =>
      by_cases h16 : 16 < gn
      · have u0 : decide ((16 : Int) < (gn : Int)) = true := by simp; omega
        have u1 : ((16 : Int) < (gn : Int)) = True := by simp; omega
        rw [u0]
        have u2 : (16 < gn) = True := by simp; omega
        have hrd := HG.out _ h3.tail
        obtain ⟨e1, e2, e3, gb, go, rfl, e4⟩ := hrd.at (by omega)
        clear e1 e2 e3 e4
        have hsl := run_to16 (b := gb) (off := go) (n := gn) (c := gc) (by omega)
        have h4 := SatL.set h3 (i := 6) (.slice (some ⟨gb, go, none⟩) 16 gc)
        have h5 : SatL _ (cl c3 30 #[.int .u32 (xi : Int), .int .u32 (p2' : Int), .int .u32 3, .int .u32 (q6 : Int), .int .u32 (ui : Int), .int .u32 (gi : Int), .slice (some ⟨gb, go, none⟩) 16 gc, .slice ba bn bc] :: _) := h4
        have H5 := hid h5
        have Hgn := hid hgn
        have hle : 16 ≤ gs.length := by omega
        have Hle := hid hle
        clear h3 h4 h5 h16 hrd hgn hle
        go_wp2_with fail
        go_meet
        exact ⟨some ⟨gb, go, none⟩, 16, gc, gs.take 16, by rw [List.length_take]; have := Hle.out; omega, Nat.le_refl _, hid (fun g hg => Hgs.out g (List.mem_of_mem_take hg)), hid (fun w' h' => RdW.pre (HG.out w' h') Hle.out), H5.out⟩
      · have u0 : decide ((16 : Int) < (gn : Int)) = false := by simp; omega
        have u1 : ((16 : Int) < (gn : Int)) = False := by simp; omega
        rw [u0]
        have u2 : (16 < gn) = False := by simp; omega
        have H3 := hid h3
        have Hgn := hid hgn
        have hle : gn ≤ 16 := by omega
        have Hle := hid hle
        clear h3 h16 hgn hle
        go_wp2_with fail
        go_meet
        exact ⟨ga, gn, gc, gs, Hgn.out, Hle.out, Hgs, HG, H3.out⟩
    case rest =>
      obtain ⟨ga', gn', gc', gs', hgn', hgn2, Hgs', HG', h4⟩ := hcut
      have hc := Hc.out
      have hbn16 := Hbn16.out
      have hok := cBack_ok (xi := xi) (p2 := p2') (q6 := q6) (ui := ui) (gi := gi) (gs := gs') (bo := bo) (by have := Hpq.out; omega) Hgs'.out
      have kw := writeBack hok (by omega) h4 (fun w' h' => HG'.out w' h'.tail) (fun w' h' => HB.out w' h'.tail)
      have hrd := cBack_rd hok (by omega) Hpq.out
      obtain ⟨CB, hCB⟩ : ∃ CB, CB = (cBack xi p2' q6 ui gi gs' bo).bytes := ⟨_, rfl⟩
      have hCl : CB.length ≤ 1000 + bn := by
        rw [hCB]
        unfold CallL.bytes
        simp only [List.length_append, be4_len, hib_len, CallL.who_len, List.length_take, List.length_cons, List.length_nil, cBack]
        omega
      rw [← hCB] at kw hrd
      obtain ⟨cn, hcn⟩ : ∃ cn, CB.length = cn := ⟨_, rfl⟩
      have hcb1 : CB.length ≤ 10000000 := by omega
      obtain ⟨x0, x1, x2, x3, x4, x5, x6, x7⟩ := set8r_sat (h4 : SatL wc (cl c3 _ #[_, _, _, _, _, _, _, _] :: _))
      have Hrd := hid hrd
      have Hcn := hid hcn
      have HCB := hid hCB
      have Hgn' := hid hgn'
      have Hbn := hid hbn
      have Hvn := hid hvn
      have hbx : body.length ≤ 100000000 := by omega
      have hby : (be4 [xid, 1, 0, 0, 0, 0] ++ body).length ≤ 10000000 := by rw [List.length_append, be4_len]; simp only [List.length_cons, List.length_nil]; omega
      clear hok hrd hcn hCl hCB hgn' hc hbn16 hgn hbn hvn h3 y6 fy6 p1 p2
      go_upto_region 11 with (first
        | (go_at_call 13; (with_reducible refine kw.mono ?_); rintro ev w4 ⟨q, rfl, h5⟩; obtain ⟨ca, cc, rfl, _, _⟩ := Sl.valn h5 (m := cn) (by rw [bvs_len]; exact Hcn.out); have kp := parse_ok (b := CB) hcb1 h5 (fun w' h' => SlB.rd h') (fun w' h' => HH.out w' h'.tail.tail); rw [Hrd.out] at kp; clear kw)
        | (go_at_call 14; (with_reducible refine kp.mono ?_); rintro ev w5 ⟨q, rfl, gv2, bv2, hv2, h6⟩; obtain ⟨pa, pc, rfl, _, _⟩ := Sl.valn h6 (m := gn') (by rw [List.length_map]; exact Hgn'.out); obtain ⟨b2a, b2c, rfl, _, _⟩ := Sl.valn h6.tail (m := bn) (by rw [bvs_len]; exact Hbn.out); replace hv2 : q = .tuple #[.agg #[.int .u32 (xi : Int), .int .u32 (p2' : Int), .int .u32 3, .int .u32 (q6 : Int), .int .u32 (ui : Int), .int .u32 (gi : Int), .slice pa gn' pc, .slice b2a bn b2c], .nilIface] := hv2; subst hv2; clear kp h5))
      have h7 := h6.alloc (.cells #[.int .u32 (xi : Int), .int .u32 (p2' : Int), .int .u32 3, .int .u32 (q6 : Int), .int .u32 (ui : Int), .int .u32 (gi : Int), .slice pa gn' pc, .slice b2a bn b2c] 30)
      clear h6 h4 x0 x1 x2 x3 x4 x5 x6 x7
      generalize w5.alloc _ = w6 at h7 ⊢
      generalize w5.heap.size = c7 at h7 ⊢
      have ks := success_ok (v := .slice va vn vc) (b := body) Hx.out hbx h7 (fun w' h' => HV.out w' h'.tail.tail.tail.tail.tail)
      have hgb : be4 [xid, 1, 0, 0, 0, 4] = be4 [xid, 1, 0, 0, 0] ++ (hib 4 4 ++ []) := by simp only [be4_cons, List.append_assoc]; try rfl
      have hag := answerL_no (xid := xid) (st := 4) (tl := []) (e := 33) Hx.out (.inr (.inr (.inr ⟨rfl, rfl, rfl⟩)))
      rw [← hgb] at hag
      have Hag := hid hag
      have hg24 : (be4 [xid, 1, 0, 0, 0, 4]).length = 24 := by rw [be4_len]; rfl
      have hgl : (be4 [xid, 1, 0, 0, 0, 4]).length ≤ 10000000 := by omega
      have Hg24 := hid hg24
      clear hg24
      clear hag hgb
      obtain ⟨sl, hsl⟩ : ∃ sl, (be4 [xid, 1, 0, 0, 0, 0] ++ body).length = sl := ⟨_, rfl⟩
      have Hsl := hid hsl
      clear hsl h7
      go_upto_region 13 with (first
        | (go_at_call 25; (with_reducible refine ks.mono ?_); rintro ev w7 ⟨q, rfl, h8⟩; obtain ⟨sa, sc, rfl, _, _⟩ := Sl.valn h8 (m := sl) (by rw [bvs_len]; exact Hsl.out); have ka := answer_ok hby h8 (fun w' h' => SlB.rd h'); rw [answerL_ok Hx.out] at ka; clear ks)
        | (go_at_call 21; (with_reducible refine ka.mono ?_); rintro ev w8 ⟨q, rfl, av, rfl, h9⟩; obtain ⟨aa, ac, rfl, _, _⟩ := Sl.valn h9 (m := vn) (by rw [bvs_len]; exact Hvn.out); have kg := garbage_ok Hx.out h9; clear ka h8)
        | (go_at_call 27; (with_reducible refine kg.mono ?_); rintro ev w9 ⟨q, rfl, h10⟩; obtain ⟨ha, hc, rfl, _, _⟩ := Sl.valn h10 (m := 24) (by rw [bvs_len]; exact Hg24.out); have ka2 := answer_ok (b := be4 [xid, 1, 0, 0, 0, 4]) hgl h10 (fun w' h' => SlB.rd h'); rw [Hag.out] at ka2; clear kg h9)
        | (go_at_call 21; (with_reducible refine ka2.mono ?_); rintro ev w10 ⟨q, rfl, bv3, rfl, h11⟩; obtain ⟨ia, ic, rfl, _, _⟩ := Sl.valn h11 (m := 0) rfl; clear ka2 h10))
      obtain ⟨SB, hSB⟩ : ∃ SB : ByteArray, SB = ⟨body.toArray⟩ := ⟨_, rfl⟩
      obtain ⟨HL, hHL, hF⟩ := exHL h11 (F := fun w' => ((w'.cell? ⟨c7, 0, none⟩ = some (.int .u32 (xi : Int)) ∧ w'.cell? ⟨c7, 1, none⟩ = some (.int .u32 (p2' : Int)) ∧ w'.cell? ⟨c7, 2, none⟩ = some (.int .u32 3) ∧ w'.cell? ⟨c7, 3, none⟩ = some (.int .u32 (q6 : Int)) ∧ w'.cell? ⟨c7, 4, none⟩ = some (.int .u32 (ui : Int)) ∧ w'.cell? ⟨c7, 5, none⟩ = some (.int .u32 (gi : Int)) ∧ w'.cell? ⟨c7, 6, none⟩ = some (.slice pa gn' pc) ∧ w'.cell? ⟨c7, 7, none⟩ = some (.slice b2a bn b2c)) ∧ (w'.cell? ⟨c3, 0, none⟩ = some (.int .u32 (xi : Int)) ∧ w'.cell? ⟨c3, 1, none⟩ = some (.int .u32 (p2' : Int)) ∧ w'.cell? ⟨c3, 2, none⟩ = some (.int .u32 3) ∧ w'.cell? ⟨c3, 3, none⟩ = some (.int .u32 (q6 : Int)) ∧ w'.cell? ⟨c3, 4, none⟩ = some (.int .u32 (ui : Int)) ∧ w'.cell? ⟨c3, 5, none⟩ = some (.int .u32 (gi : Int)) ∧ w'.cell? ⟨c3, 6, none⟩ = some (.slice ga' gn' gc') ∧ w'.cell? ⟨c3, 7, none⟩ = some (.slice ba bn bc)) ∧ (convert 27 9 (.slice aa vn ac)).run Tryd.prog w' = .ok (.string SB) w' ∧ (convert 27 9 (.slice va vn vc)).run Tryd.prog w' = .ok (.string SB) w') ∧ (RdW (.slice pa gn' pc) gs' w' ∧ RdV (.slice b2a bn b2c) bo w') ∧ SatL w' [old w]) (fun w' h' => ⟨⟨set8r_sat (h'.pull 4 : SatL w' (cl c7 _ #[_, _, _, _, _, _, _, _] :: _)), set8r_sat (h'.pull 8 : SatL w' (cl c3 _ #[_, _, _, _, _, _, _, _] :: _)), hSB ▸ RdB.conv (SlB.rd (h'.pull 2)), hSB ▸ RdV.conv (HV.out w' h'.tail.tail.tail.tail.tail.tail.tail.tail.tail)⟩, ⟨SlW.rd (h'.pull 5), RdB.v (by have := SlB.rd (h'.pull 6 : SatL w' (SlB 5 (.slice b2a bn b2c) bo :: _)); exact this)⟩, h'.tail.tail.tail.tail.tail.tail.tail.tail.tail⟩)
      have HF := hid hF
      have HSB := hid hSB
      clear hF hSB h11 hbx hby hgl hcb1
      refine GoE.start (fun w' => (w'.cell? ⟨c7, 0, none⟩ = some (.int .u32 (xi : Int)) ∧ w'.cell? ⟨c7, 1, none⟩ = some (.int .u32 (p2' : Int)) ∧ w'.cell? ⟨c7, 2, none⟩ = some (.int .u32 3) ∧ w'.cell? ⟨c7, 3, none⟩ = some (.int .u32 (q6 : Int)) ∧ w'.cell? ⟨c7, 4, none⟩ = some (.int .u32 (ui : Int)) ∧ w'.cell? ⟨c7, 5, none⟩ = some (.int .u32 (gi : Int)) ∧ w'.cell? ⟨c7, 6, none⟩ = some (.slice pa gn' pc) ∧ w'.cell? ⟨c7, 7, none⟩ = some (.slice b2a bn b2c)) ∧ (w'.cell? ⟨c3, 0, none⟩ = some (.int .u32 (xi : Int)) ∧ w'.cell? ⟨c3, 1, none⟩ = some (.int .u32 (p2' : Int)) ∧ w'.cell? ⟨c3, 2, none⟩ = some (.int .u32 3) ∧ w'.cell? ⟨c3, 3, none⟩ = some (.int .u32 (q6 : Int)) ∧ w'.cell? ⟨c3, 4, none⟩ = some (.int .u32 (ui : Int)) ∧ w'.cell? ⟨c3, 5, none⟩ = some (.int .u32 (gi : Int)) ∧ w'.cell? ⟨c3, 6, none⟩ = some (.slice ga' gn' gc') ∧ w'.cell? ⟨c3, 7, none⟩ = some (.slice ba bn bc)) ∧ (convert 27 9 (.slice aa vn ac)).run Tryd.prog w' = .ok (.string SB) w' ∧ (convert 27 9 (.slice va vn vc)).run Tryd.prog w' = .ok (.string SB) w') 38 39 rfl (by kernel_rfl) ?_
      have hs1 := sat_drew.2 hHL
      generalize w10.drew = w11 at hs1 ⊢
      have S0 := (HF.out _ hs1).1
      have kT : Calls Tryd.prog 24 #[.agg #[.int .u32 (xi : Int), .int .u32 (p2' : Int), .int .u32 3, .int .u32 (q6 : Int), .int .u32 (ui : Int), .int .u32 (gi : Int), .slice ga' gn' gc', .slice ba bn bc]] w11 (Ret fun v w' => v = .agg #[.int .u32 (xi : Int), .int .u32 (p2' : Int), .int .u32 3, .int .u32 (q6 : Int), .int .u32 (ui : Int), .int .u32 (gi : Int), .slice ga' gn' gc', .slice ba bn bc] ∧ SatL w' HL) := theirs_ok (ve := 3) hs1
      have kS := hid (fun (w' : World) (h' : SatL w' HL) => (show Calls Tryd.prog 29 #[.agg #[.int .u32 (xi : Int), .int .u32 (p2' : Int), .int .u32 3, .int .u32 (q6 : Int), .int .u32 (ui : Int), .int .u32 (gi : Int), .slice pa gn' pc, .slice b2a bn b2c], .agg #[.int .u32 (xi : Int), .int .u32 (p2' : Int), .int .u32 3, .int .u32 (q6 : Int), .int .u32 (ui : Int), .int .u32 (gi : Int), .slice ga' gn' gc', .slice ba bn bc]] w' (Ret fun v w'' => v = .bool true ∧ SatL w'' HL) from same_ok (ve := 3) (gs := gs') (bo := bo) h' (fun w' h' => (HF.out w' h').2.1.1) (fun w' h' => HG'.out w' (HF.out w' h').2.2) (fun w' h' => (HF.out w' h').2.1.2) (fun w' h' => HB.out w' (HF.out w' h').2.2)))
      clear hHL
      refine GoE.take (i := 0) (v := ?_) rfl (by decide) (by kernel_rfl) (by kernel_rfl) (by kernel_rfl) (by kernel_rfl) (fun _ _ _ h => h) (by rfl) ?_ (by assumption) ?_
      rotate_left
      · intro w hSw; (try dsimp only at hSw); go_simp; try (with_reducible rfl)
      try simp only [Act.put, List.setIfInBounds_toArray, List.set_cons_zero, List.set_cons_succ]
      refine GoE.take (i := 1) (v := ?_) rfl (by decide) (by kernel_rfl) (by kernel_rfl) (by kernel_rfl) (by kernel_rfl) (fun _ _ _ h => h) (by rfl) ?_ (by assumption) ?_
      rotate_left
      · intro w hSw; (try dsimp only at hSw); go_simp; try (with_reducible rfl)
      try simp only [Act.put, List.setIfInBounds_toArray, List.set_cons_zero, List.set_cons_succ]
      refine GoE.take (i := 2) (v := ?_) rfl (by decide) (by kernel_rfl) (by kernel_rfl) (by kernel_rfl) (by kernel_rfl) (fun _ _ _ h => h) (by rfl) ?_ (by assumption) ?_
      rotate_left
      · intro w hSw; (try dsimp only at hSw); go_simp; try (with_reducible rfl)
      try simp only [Act.put, List.setIfInBounds_toArray, List.set_cons_zero, List.set_cons_succ]
      refine GoE.take (i := 3) (v := ?_) rfl (by decide) (by kernel_rfl) (by kernel_rfl) (by kernel_rfl) (by kernel_rfl) (fun _ _ _ h => h) (by rfl) ?_ (by assumption) ?_
      rotate_left
      · intro w hSw; (try dsimp only at hSw); go_simp; try (with_reducible rfl)
      try simp only [Act.put, List.setIfInBounds_toArray, List.set_cons_zero, List.set_cons_succ]
      refine GoE.take (i := 4) (v := ?_) rfl (by decide) (by kernel_rfl) (by kernel_rfl) (by kernel_rfl) (by kernel_rfl) (fun _ _ _ h => h) (by rfl) ?_ (by assumption) ?_
      rotate_left
      · intro w hSw; (try dsimp only at hSw); go_simp; try (with_reducible rfl)
      try simp only [Act.put, List.setIfInBounds_toArray, List.set_cons_zero, List.set_cons_succ]
      refine GoE.one (i := 5) rfl (by kernel_rfl) (fun K hK => ?_)
      go_simp
      go_at_call 24
      (with_reducible refine (kT).mono ?_)
      rintro e w12 ⟨q, rfl, rfl, h12⟩; have S1 := (HF.out _ h12).1
      go_wp2_with fail
      refine hK.out _ _ (fun _ => S1) ?_
      clear hK K
      try simp only [Act.put, List.setIfInBounds_toArray, List.set_cons_zero, List.set_cons_succ]
      clear S0 hs1 kT
      have kS1 := kS.out _ h12
      refine GoE.one (i := 6) rfl (by kernel_rfl) (fun K hK => ?_)
      go_simp
      go_at_call 29
      (with_reducible refine (kS1).mono ?_)
      rintro e w13 ⟨q, rfl, rfl, h13⟩; have S2 := (HF.out _ h13).1
      go_wp2_with fail
      refine hK.out _ _ (fun _ => S2) ?_
      clear hK K
      try simp only [Act.put, List.setIfInBounds_toArray, List.set_cons_zero, List.set_cons_succ]
      clear S1 kS1 kS
      refine GoE.take (i := 7) (v := ?_) rfl (by decide) (by kernel_rfl) (by kernel_rfl) (by kernel_rfl) (by kernel_rfl) (fun _ _ _ h => h) (by rfl) ?_ (by assumption) ?_
      rotate_left
      · intro w hSw; (try dsimp only at hSw); go_simp; try (with_reducible rfl)
      try simp only [Act.put, List.setIfInBounds_toArray, List.set_cons_zero, List.set_cons_succ]
      refine GoE.take (i := 8) (v := ?_) rfl (by decide) (by kernel_rfl) (by kernel_rfl) (by kernel_rfl) (by kernel_rfl) (fun _ _ _ h => h) (by rfl) ?_ (by assumption) ?_
      rotate_left
      · intro w hSw; (try dsimp only at hSw); go_simp; try (with_reducible rfl)
      try simp only [Act.put, List.setIfInBounds_toArray, List.set_cons_zero, List.set_cons_succ]
      refine GoE.take (i := 9) (v := ?_) rfl (by decide) (by kernel_rfl) (by kernel_rfl) (by kernel_rfl) (by kernel_rfl) (fun _ _ _ h => h) (by rfl) ?_ (by assumption) ?_
      rotate_left
      · intro w hSw; (try dsimp only at hSw); go_simp; try (with_reducible rfl)
      try simp only [Act.put, List.setIfInBounds_toArray, List.set_cons_zero, List.set_cons_succ]
      refine GoE.take (i := 10) (v := ?_) rfl (by decide) (by kernel_rfl) (by kernel_rfl) (by kernel_rfl) (by kernel_rfl) (fun _ _ _ h => h) (by rfl) ?_ (by assumption) ?_
      rotate_left
      · intro w hSw; (try dsimp only at hSw); go_simp; try (with_reducible rfl)
      try simp only [Act.put, List.setIfInBounds_toArray, List.set_cons_zero, List.set_cons_succ]
      refine GoE.take (i := 11) (v := ?_) rfl (by decide) (by kernel_rfl) (by kernel_rfl) (by kernel_rfl) (by kernel_rfl) (fun _ _ _ h => h) (by rfl) ?_ (by assumption) ?_
      rotate_left
      · intro w hSw; (try dsimp only at hSw); go_simp; try (with_reducible rfl)
      try simp only [Act.put, List.setIfInBounds_toArray, List.set_cons_zero, List.set_cons_succ]
      refine GoE.take (i := 12) (v := ?_) rfl (by decide) (by kernel_rfl) (by kernel_rfl) (by kernel_rfl) (by kernel_rfl) (fun _ _ _ h => h) (by rfl) ?_ (by assumption) ?_
      rotate_left
      · intro w hSw; (try dsimp only at hSw); go_simp; try (with_reducible rfl)
      try simp only [Act.put, List.setIfInBounds_toArray, List.set_cons_zero, List.set_cons_succ]
      refine GoE.take (i := 13) (v := ?_) rfl (by decide) (by kernel_rfl) (by kernel_rfl) (by kernel_rfl) (by kernel_rfl) (fun _ _ _ h => h) (by rfl) ?_ (by assumption) ?_
      rotate_left
      · intro w hSw; (try dsimp only at hSw); go_simp; try (with_reducible rfl)
      try simp only [Act.put, List.setIfInBounds_toArray, List.set_cons_zero, List.set_cons_succ]
      refine GoE.take (i := 14) (v := ?_) rfl (by decide) (by kernel_rfl) (by kernel_rfl) (by kernel_rfl) (by kernel_rfl) (fun _ _ _ h => h) (by rfl) ?_ (by assumption) ?_
      rotate_left
      · intro w hSw; (try dsimp only at hSw); go_simp; try (with_reducible rfl)
      try simp only [Act.put, List.setIfInBounds_toArray, List.set_cons_zero, List.set_cons_succ]
      refine GoE.take (i := 15) (v := ?_) rfl (by decide) (by kernel_rfl) (by kernel_rfl) (by kernel_rfl) (by kernel_rfl) (fun _ _ _ h => h) (by rfl) ?_ (by assumption) ?_
      rotate_left
      · intro w hSw; (try dsimp only at hSw); go_simp; try (with_reducible rfl)
      try simp only [Act.put, List.setIfInBounds_toArray, List.set_cons_zero, List.set_cons_succ]
      refine GoE.take (i := 16) (v := ?_) rfl (by decide) (by kernel_rfl) (by kernel_rfl) (by kernel_rfl) (by kernel_rfl) (fun _ _ _ h => h) (by rfl) ?_ (by assumption) ?_
      rotate_left
      · intro w hSw; (try dsimp only at hSw); go_simp; try (with_reducible rfl)
      try simp only [Act.put, List.setIfInBounds_toArray, List.set_cons_zero, List.set_cons_succ]
      refine GoE.take (i := 17) (v := ?_) rfl (by decide) (by kernel_rfl) (by kernel_rfl) (by kernel_rfl) (by kernel_rfl) (fun _ _ _ h => h) (by rfl) ?_ (by assumption) ?_
      rotate_left
      · intro w hSw; (try dsimp only at hSw); go_simp; try (with_reducible rfl)
      try simp only [Act.put, List.setIfInBounds_toArray, List.set_cons_zero, List.set_cons_succ]
      refine GoE.take (i := 18) (v := ?_) rfl (by decide) (by kernel_rfl) (by kernel_rfl) (by kernel_rfl) (by kernel_rfl) (fun _ _ _ h => h) (by rfl) ?_ (by assumption) ?_
      rotate_left
      · intro w hSw; (try dsimp only at hSw); go_simp; try (with_reducible rfl)
      try simp only [Act.put, List.setIfInBounds_toArray, List.set_cons_zero, List.set_cons_succ]
      refine GoE.take (i := 19) (v := ?_) rfl (by decide) (by kernel_rfl) (by kernel_rfl) (by kernel_rfl) (by kernel_rfl) (fun _ _ _ h => h) (by rfl) ?_ (by assumption) ?_
      rotate_left
      · intro w hSw; (try dsimp only at hSw); go_simp; try (with_reducible rfl)
      try simp only [Act.put, List.setIfInBounds_toArray, List.set_cons_zero, List.set_cons_succ]
      refine GoE.take (i := 20) (v := ?_) rfl (by decide) (by kernel_rfl) (by kernel_rfl) (by kernel_rfl) (by kernel_rfl) (fun _ _ _ h => h) (by rfl) ?_ (by assumption) ?_
      rotate_left
      · intro w hSw; (try dsimp only at hSw); go_simp; try (with_reducible rfl)
      try simp only [Act.put, List.setIfInBounds_toArray, List.set_cons_zero, List.set_cons_succ]
      refine GoE.take (i := 21) (v := ?_) rfl (by decide) (by kernel_rfl) (by kernel_rfl) (by kernel_rfl) (by kernel_rfl) (fun _ _ _ h => h) (by rfl) ?_ (by assumption) ?_
      rotate_left
      · intro w hSw; (try dsimp only at hSw); go_simp; try (with_reducible rfl)
      try simp only [Act.put, List.setIfInBounds_toArray, List.set_cons_zero, List.set_cons_succ]
      refine GoE.take (i := 22) (v := ?_) rfl (by decide) (by kernel_rfl) (by kernel_rfl) (by kernel_rfl) (by kernel_rfl) (fun _ _ _ h => h) (by rfl) ?_ (by assumption) ?_
      rotate_left
      · intro w hSw; (try dsimp only at hSw); go_simp; try (with_reducible rfl)
      try simp only [Act.put, List.setIfInBounds_toArray, List.set_cons_zero, List.set_cons_succ]
      refine GoE.take (i := 23) (v := ?_) rfl (by decide) (by kernel_rfl) (by kernel_rfl) (by kernel_rfl) (by kernel_rfl) (fun _ _ _ h => h) (by rfl) ?_ (by assumption) ?_
      rotate_left
      · intro w hSw; (try dsimp only at hSw); go_simp; try (with_reducible rfl)
      try simp only [Act.put, List.setIfInBounds_toArray, List.set_cons_zero, List.set_cons_succ]
      refine GoE.take (i := 24) (v := ?_) rfl (by decide) (by kernel_rfl) (by kernel_rfl) (by kernel_rfl) (by kernel_rfl) (fun _ _ _ h => h) (by rfl) ?_ (by assumption) ?_
      rotate_left
      · intro w hSw; (try dsimp only at hSw); go_simp; try (with_reducible rfl)
      try simp only [Act.put, List.setIfInBounds_toArray, List.set_cons_zero, List.set_cons_succ]
      refine GoE.take (i := 25) (v := ?_) rfl (by decide) (by kernel_rfl) (by kernel_rfl) (by kernel_rfl) (by kernel_rfl) (fun _ _ _ h => h) (by rfl) ?_ (by assumption) ?_
      rotate_left
      · intro w hSw; (try dsimp only at hSw); go_simp; try (with_reducible rfl)
      try simp only [Act.put, List.setIfInBounds_toArray, List.set_cons_zero, List.set_cons_succ]
      refine GoE.take (i := 26) (v := ?_) rfl (by decide) (by kernel_rfl) (by kernel_rfl) (by kernel_rfl) (by kernel_rfl) (fun _ _ _ h => h) (by rfl) ?_ (by assumption) ?_
      rotate_left
      · intro w hSw; (try dsimp only at hSw); go_simp; try (with_reducible rfl)
      try simp only [Act.put, List.setIfInBounds_toArray, List.set_cons_zero, List.set_cons_succ]
      refine GoE.take (i := 27) (v := ?_) rfl (by decide) (by kernel_rfl) (by kernel_rfl) (by kernel_rfl) (by kernel_rfl) (fun _ _ _ h => h) (by rfl) ?_ (by assumption) ?_
      rotate_left
      · intro w hSw; (try dsimp only at hSw); go_simp; try (with_reducible rfl)
      try simp only [Act.put, List.setIfInBounds_toArray, List.set_cons_zero, List.set_cons_succ]
      refine GoE.take (i := 28) (v := ?_) rfl (by decide) (by kernel_rfl) (by kernel_rfl) (by kernel_rfl) (by kernel_rfl) (fun _ _ _ h => h) (by rfl) ?_ (by assumption) ?_
      rotate_left
      · intro w hSw; (try dsimp only at hSw); go_simp; try (with_reducible rfl)
      try simp only [Act.put, List.setIfInBounds_toArray, List.set_cons_zero, List.set_cons_succ]
      refine GoE.take (i := 29) (v := ?_) rfl (by decide) (by kernel_rfl) (by kernel_rfl) (by kernel_rfl) (by kernel_rfl) (fun _ _ _ h => h) (by rfl) ?_ (by assumption) ?_
      rotate_left
      · intro w hSw; (try dsimp only at hSw); go_simp; try (with_reducible rfl)
      try simp only [Act.put, List.setIfInBounds_toArray, List.set_cons_zero, List.set_cons_succ]
      refine GoE.take (i := 30) (v := ?_) rfl (by decide) (by kernel_rfl) (by kernel_rfl) (by kernel_rfl) (by kernel_rfl) (fun _ _ _ h => h) (by rfl) ?_ (by assumption) ?_
      rotate_left
      · intro w hSw; (try dsimp only at hSw); go_simp; try (with_reducible rfl)
      try simp only [Act.put, List.setIfInBounds_toArray, List.set_cons_zero, List.set_cons_succ]
      refine GoE.take (i := 31) (v := ?_) rfl (by decide) (by kernel_rfl) (by kernel_rfl) (by kernel_rfl) (by kernel_rfl) (fun _ _ _ h => h) (by rfl) ?_ (by assumption) ?_
      rotate_left
      · intro w hSw; (try dsimp only at hSw); go_simp; try (with_reducible rfl)
      try simp only [Act.put, List.setIfInBounds_toArray, List.set_cons_zero, List.set_cons_succ]
      refine GoE.take (i := 32) (v := ?_) rfl (by decide) (by kernel_rfl) (by kernel_rfl) (by kernel_rfl) (by kernel_rfl) (fun _ _ _ h => h) (by rfl) ?_ (by assumption) ?_
      rotate_left
      · intro w hSw; (try dsimp only at hSw); go_simp; try (with_reducible rfl)
      try simp only [Act.put, List.setIfInBounds_toArray, List.set_cons_zero, List.set_cons_succ]
      refine GoE.take (i := 33) (v := ?_) rfl (by decide) (by kernel_rfl) (by kernel_rfl) (by kernel_rfl) (by kernel_rfl) (fun _ _ _ h => h) (by rfl) ?_ (by assumption) ?_
      rotate_left
      · intro w hSw; (try dsimp only at hSw); go_simp; try (with_reducible rfl)
      try simp only [Act.put, List.setIfInBounds_toArray, List.set_cons_zero, List.set_cons_succ]
      refine GoE.take (i := 34) (v := ?_) rfl (by decide) (by kernel_rfl) (by kernel_rfl) (by kernel_rfl) (by kernel_rfl) (fun _ _ _ h => h) (by rfl) ?_ (by assumption) ?_
      rotate_left
      · intro w hSw; (try dsimp only at hSw); go_simp; try (with_reducible rfl)
      try simp only [Act.put, List.setIfInBounds_toArray, List.set_cons_zero, List.set_cons_succ]
      refine GoE.take (i := 35) (v := ?_) rfl (by decide) (by kernel_rfl) (by kernel_rfl) (by kernel_rfl) (by kernel_rfl) (fun _ _ _ h => h) (by rfl) ?_ (by assumption) ?_
      rotate_left
      · intro w hSw; (try dsimp only at hSw); go_simp; try (with_reducible rfl)
      try simp only [Act.put, List.setIfInBounds_toArray, List.set_cons_zero, List.set_cons_succ]
      refine GoE.take (i := 36) (v := ?_) rfl (by decide) (by kernel_rfl) (by kernel_rfl) (by kernel_rfl) (by kernel_rfl) (fun _ _ _ h => h) (by rfl) ?_ (by assumption) ?_
      rotate_left
      · intro w hSw; (try dsimp only at hSw); go_simp; try (with_reducible rfl)
      try simp only [Act.put, List.setIfInBounds_toArray, List.set_cons_zero, List.set_cons_succ]
      refine GoE.take (i := 37) (v := ?_) rfl (by decide) (by kernel_rfl) (by kernel_rfl) (by kernel_rfl) (by kernel_rfl) (fun _ _ _ h => h) (by rfl) ?_ (by assumption) ?_
      rotate_left
      · intro w hSw; (try dsimp only at hSw); go_simp; try (with_reducible rfl)
      try simp only [Act.put, List.setIfInBounds_toArray, List.set_cons_zero, List.set_cons_succ]
      refine GoE.one (i := 38) rfl (by kernel_rfl) (fun K hK => ?_)
      go_simp
      refine hK.out _ _ (fun h => absurd rfl h) ?_
      clear hK K
      try simp only [Act.put, List.setIfInBounds_toArray, List.set_cons_zero, List.set_cons_succ]
      refine GoE.done (by kernel_rfl) ?_
      clear S2
      go_wp2_with fail
      go_ret
      exact Ret.mk ⟨rfl, (HF.out _ h13).2.2⟩
end
end Go.Proofs.YtpecmkkcepnpeaaDoor
