/- RpcRefuses: the law's walk. Condition: errors.errorType's cell holds the type's handle. -/
import Derived.Test.YtpecmkkcepnpeaaDoorLawBack
import Derived.Test.YtpecmkkcepnpeaaDoorWithin9
namespace Go.Proofs.YtpecmkkcepnpeaaDoor
set_option linter.unusedVariables false
set_option linter.unusedSimpArgs false
open Go.RowKit
section
variable {w : World} {L : List HP}
def cRef (xi p v q ui gi : Nat) (gs : List Nat) (bo : List UInt8) : CallL := ⟨xi, p, v, q, ui, gi, gs, bo⟩
theorem cRef_ok {xi p v q ui gi : Nat} {gs : List Nat} {bo : List UInt8} (h : xi < 4294967296 ∧ p < 4294967296 ∧ v < 4294967296 ∧ q < 4294967296 ∧ ui < 4294967296 ∧ gi < 4294967296) (hg : ∀ g ∈ gs, g < 4294967296) : (cRef xi p v q ui gi gs bo).ok := ⟨h, hg⟩
theorem cRef_rd {xi p v q ui gi : Nat} {gs : List Nat} {bo : List UInt8} {e : Int} {us : List Nat} (ok : (cRef xi p v q ui gi gs bo).ok) (he : e ≠ 0) (hk : knownL p v q = (e, us)) : readL (cRef xi p v q ui gi gs bo).bytes = .bad e (be4 ([xi, 1, 0, 0, 0] ++ us)) := by
  rw [readL_bytes ok]
  have e1 : knownL (cRef xi p v q ui gi gs bo).prog (cRef xi p v q ui gi gs bo).vers (cRef xi p v q ui gi gs bo).proc = (e, us) := hk
  rw [e1, if_pos he]
  rfl
/-- a call of another version of the calls themselves -/
theorem readL_vers {xid : Nat} {r : List UInt8} (hx : xid < 4294967296) : readL (hib 4 xid ++ (hib 4 0 ++ (hib 4 3 ++ r))) = .bad 31 (be4 [xid, 1, 1, 0, 2, 2]) := by
  generalize hB : hib 4 xid ++ (hib 4 0 ++ (hib 4 3 ++ r)) = B
  have a0 := at_new B
  conv at a0 => arg 2; rw [← hB]
  obtain ⟨e1, a1⟩ := at_num a0 hx
  obtain ⟨e2, a2⟩ := at_num a1 (by omega)
  obtain ⟨e3, a3⟩ := at_num a2 (by omega)
  have x1 : rxid B = xid := e1
  have x2 : rkind B = 0 := e2
  have x3 : rvers B = 3 := e3
  have k3 : (rd3 B).err = 0 := a3.1
  unfold readL
  rw [k3, x1, x2, x3, if_neg (by omega), if_pos (by omega)]
theorem set11 (xid : Nat) (r : List UInt8) : (hib 4 xid ++ (hib 4 0 ++ (hib 4 2 ++ r))).set 11 3 = hib 4 xid ++ (hib 4 0 ++ (hib 4 3 ++ r)) := rfl
theorem cRef_vers {xi q ui gi p : Nat} {gs : List Nat} {bo : List UInt8} (hx : xi < 4294967296) : readL ((cRef xi p 3 q ui gi gs bo).bytes.set 11 3) = .bad 31 (be4 [xi, 1, 1, 0, 2, 2]) := by
  have e : ∃ r, (cRef xi p 3 q ui gi gs bo).bytes = hib 4 xi ++ (hib 4 0 ++ (hib 4 2 ++ r)) := by
    refine ⟨hib 4 p ++ (hib 4 3 ++ (hib 4 q ++ (hib 4 1 ++ (hib 4 (cRef xi p 3 q ui gi gs bo).who.length ++ ((cRef xi p 3 q ui gi gs bo).who ++ (hib 4 0 ++ (hib 4 0 ++ bo))))))), ?_⟩
    unfold CallL.bytes
    simp only [be4_cons, List.append_assoc]
    rfl
  obtain ⟨r, e⟩ := e
  rw [e, set11, readL_vers hx]
theorem writeRef {xi p v q ui gi : Nat} {gs : List Nat} {bo : List UInt8} {gv bv : Value} (ok : (cRef xi p v q ui gi gs bo).ok) (hb : bo.length ≤ 10000000) (h : SatL w L) (g : Gives L (RdW gv gs)) (gb : Gives L (RdV bv bo)) :
    Calls Tryd.prog 13 #[.agg #[.int .u32 (xi : Int), .int .u32 (p : Int), .int .u32 (v : Int), .int .u32 (q : Int), .int .u32 (ui : Int), .int .u32 (gi : Int), gv, bv]] w (Ret fun v' w' => SatL w' (SlB 5 v' (cRef xi p v q ui gi gs bo).bytes :: L)) := by
  have h1 := write_ok (c := cRef xi p v q ui gi gs bo) (gv := gv) (bv := bv) ok hb h g gb
  exact h1
/-- what each kind turns, and what comes of it -/
def RefCase (k xi p v q : Nat) (e : Int) : Prop :=
  (p < 4294967296 ∧ v < 4294967296 ∧ q < 4294967296) ∧ (k = 4 → v = 3 ∧ e = 0) ∧ (k ≠ 4 → e ≠ 0 ∧ ∃ us, knownL p v q = (e, us) ∧ us.length ≤ 3 ∧ answerL (be4 ([xi, 1, 0, 0, 0] ++ us)) = (xi, [], e))
theorem ans1 {xi : Nat} (hx : xi < 4294967296) : answerL (be4 ([xi, 1, 0, 0, 0] ++ [1])) = (xi, [], 34) := by
  rw [be4_append]
  exact answerL_no (tl := []) hx (.inl ⟨rfl, rfl, rfl⟩)
theorem ans2 {xi : Nat} (hx : xi < 4294967296) : answerL (be4 ([xi, 1, 0, 0, 0] ++ [2, 3, 3])) = (xi, [], 35) := by
  rw [be4_append, be4_cons]
  exact answerL_no (tl := be4 [3, 3]) hx (.inr (.inl ⟨rfl, by rw [be4_len]; rfl, rfl⟩))
theorem ans3 {xi : Nat} (hx : xi < 4294967296) : answerL (be4 ([xi, 1, 0, 0, 0] ++ [3])) = (xi, [], 36) := by
  rw [be4_append]
  exact answerL_no (tl := []) hx (.inr (.inr (.inl ⟨rfl, rfl, rfl⟩)))
theorem case0 {xi q : Nat} (hx : xi < 4294967296) (hq : q ≤ 21) : RefCase 0 xi 100004 3 q 34 :=
  ⟨by omega, fun h => by omega, fun _ => ⟨by decide, [1], by unfold knownL; rw [if_neg (by omega)], by decide, ans1 hx⟩⟩
theorem case1 {xi q : Nat} (hx : xi < 4294967296) (hq : q ≤ 21) : RefCase 1 xi 100003 2 q 35 :=
  ⟨by omega, fun h => by omega, fun _ => ⟨by decide, [2, 3, 3], by unfold knownL; rw [if_pos (by omega), if_pos (by omega)], by decide, ans2 hx⟩⟩
theorem case2 {xi q : Nat} (hx : xi < 4294967296) (hq : q ≤ 21) : RefCase 2 xi 100003 3 (22 + q) 36 :=
  ⟨by omega, fun h => by omega, fun _ => ⟨by decide, [3], by unfold knownL; rw [if_pos (by omega), if_neg (by omega), if_pos (by rw [if_neg (by omega)]; omega)], by decide, ans3 hx⟩⟩
theorem case3 {xi q : Nat} (hx : xi < 4294967296) (hq : q ≤ 21) : RefCase 3 xi 100005 3 (6 + q % 9) 36 :=
  ⟨by omega, fun h => by omega, fun _ => ⟨by decide, [3], by unfold knownL; rw [if_pos (by omega), if_neg (by omega), if_pos (by rw [if_pos rfl]; omega)], by decide, ans3 hx⟩⟩
theorem case4 {xi q : Nat} (hq : q ≤ 21) : RefCase 4 xi 100003 3 q 0 :=
  ⟨by omega, fun _ => ⟨rfl, rfl⟩, fun h => absurd rfl h⟩
set_option maxRecDepth 100000 in
set_option maxHeartbeats 8000000 in
theorem ref_walk {xi pr ve po ui gi : Nat} {gs : List Nat} {bo : List UInt8} {gv bv : Value} {a1 : Int} (w : World) (hc : xi < 4294967296 ∧ pr < 4294967296 ∧ ve < 4294967296 ∧ po < 4294967296 ∧ ui < 4294967296 ∧ gi < 4294967296) (hgs : ∀ g ∈ gs, g < 4294967296)
    (hg : RdW gv gs w) (hb : RdV bv bo w) (hH : HndW w) :
    Calls Tryd.prog 7 #[.agg (callC xi pr ve po ui gi gv bv), .int .i64 a1] w (Ret fun q w' => q = .bool true ∧ SatL w' [old w]) := by
  obtain ⟨gn, hgn⟩ : ∃ gn, gs.length = gn := ⟨_, rfl⟩
  obtain ⟨bn, hbn⟩ : ∃ bn, bo.length = bn := ⟨_, rfl⟩
  obtain ⟨ga, gc, rfl, p1, p2⟩ := hg.valn
  obtain ⟨ba, bc, rfl, _, _⟩ := hb.valn
  rw [hgn] at hg p1 ⊢
  rw [hbn] at hb ⊢
  have h0 := (sat_old w).alloc (.cells (callC xi pr ve po ui gi (.slice ga gn gc) (.slice ba bn bc)) 30)
  have kK := known_ok h0 (fun w' h' => hH.old w' h'.tail)
  have HH := hid hH.old
  have HG := hid hg.old
  have HB := hid hb.old
  have Hgs := hid hgs
  have Hc := hid hc
  obtain ⟨k, hk5, kW⟩ := within_nat a1 5 (by omega)
  clear hH hg hb hgs hc h0
  by_cases hl1 : 16384 < bn
  · have t1 : ((16384 : Int) < (bn : Int)) = True := by simp; omega
    have t2 : (16384 < bn) = True := by simp; omega
    clear hl1
    go_enter Tryd.func7, Tryd.ntmps7
    go_wp2_with (first
      | (go_at_call 12; (with_reducible refine kK.mono ?_); rintro ev w1 ⟨q, rfl, rfl, hs⟩; have x7 := SatL.cell (hs : SatL w1 (cl _ _ _ :: _)) (i := 7) (v := .slice ba bn bc) rfl))
    go_ret
    exact Ret.mk ⟨rfl, hs.tail⟩
  · have t1 : ((16384 : Int) < (bn : Int)) = False := by simp; omega
    have t2 : (16384 < bn) = False := by simp; omega
    have hbn16 : bn ≤ 16384 := by omega
    have Hbn16 := hid hbn16
    clear hl1 hbn16
    go_enter Tryd.func7, Tryd.ntmps7
    go_upto_region 5 with (first
      | (go_at_call 12; (with_reducible refine kK.mono ?_); rintro ev w1 ⟨q, rfl, rfl, hs⟩; have x7 := SatL.cell (hs : SatL w1 (cl _ _ _ :: _)) (i := 7) (v := .slice ba bn bc) rfl))
    generalize w.heap.size = c2 at hs x7 ⊢
    have hc3' : SatL w1 (cl c2 30 #[.int .u32 (xi : Int), .int .u32 (pr : Int), .int .u32 (ve : Int), .int .u32 (po : Int), .int .u32 (ui : Int), .int .u32 (gi : Int), .slice ga gn gc, .slice ba bn bc] :: _) := hs
    have x1 := SatL.cell (hc3' : SatL w1 (cl _ _ _ :: _)) (i := 1) (v := .int .u32 (pr : Int)) rfl
    have f1 := SatL.free (hc3' : SatL w1 (cl _ _ _ :: _)) 1
    have x2 := SatL.cell (hc3' : SatL w1 (cl _ _ _ :: _)) (i := 2) (v := .int .u32 (ve : Int)) rfl
    have f2 := SatL.free (hc3' : SatL w1 (cl _ _ _ :: _)) 2
    have x3 := SatL.cell (hc3' : SatL w1 (cl _ _ _ :: _)) (i := 3) (v := .int .u32 (po : Int)) rfl
    have f3 := SatL.free (hc3' : SatL w1 (cl _ _ _ :: _)) 3
    have h2 := SatL.set (SatL.set (SatL.set hc3' (i := 1) (.int .u32 100003)) (i := 2) (.int .u32 3)) (i := 3) (.int .u32 ((po : Int) % 22))
    obtain ⟨q22, hq22⟩ : ∃ q22 : Nat, (po : Int) % 22 = (q22 : Int) := ⟨po % 22, by omega⟩
    have h3 : SatL _ (cl c2 30 #[.int .u32 (xi : Int), .int .u32 100003, .int .u32 3, .int .u32 ((po : Int) % 22), .int .u32 (ui : Int), .int .u32 (gi : Int), .slice ga gn gc, .slice ba bn bc] :: _) := h2
    have H3 := hid h3
    have Hq22 := hid hq22
    clear t1 t2 x7 h2 h3 hq22 hs hc3' kK
    go_upto_region 6 with fail
    have h3 := H3.out
    generalize (((w1.setCell ⟨c2, 1, none⟩ (.int .u32 100003)).setCell ⟨c2, 2, none⟩ (.int .u32 3)).setCell ⟨c2, 3, none⟩ (.int .u32 ((po : Int) % 22))) = w3 at h3 ⊢
    rw [Hq22.out] at h3 ⊢
    have hq21 : q22 ≤ 21 := by have := Hq22.out; omega
    have y6 := SatL.cell (h3 : SatL w3 (cl _ _ _ :: _)) (i := 6) (v := .slice ga gn gc) rfl
    have fy6 := SatL.free (h3 : SatL w3 (cl _ _ _ :: _)) 6
    have Hq21 := hid hq21
    clear H3 x1 x2 x3 f1 f2 f3 hq21
    go_upto_if 29 with fail
    go_cut [4] from 29 to 35 (fun _ wx => ∃ (ga' : Option Addr) (gn' gc' : Nat) (gs' : List Nat), gs'.length = gn' ∧ gn' ≤ 16 ∧ Hid (∀ g ∈ gs', g < 4294967296) ∧ Hid (Gives [old w] (RdW (.slice ga' gn' gc') gs')) ∧ SatL wx (cl c2 30 #[.int .u32 (xi : Int), .int .u32 100003, .int .u32 3, .int .u32 (q22 : Int), .int .u32 (ui : Int), .int .u32 (gi : Int), .slice ga' gn' gc', .slice ba bn bc] :: [old w]))
    case first =>
      by_cases h16 : 16 < gn
      · have u0 : decide ((16 : Int) < (gn : Int)) = true := by simp; omega
        have u1 : ((16 : Int) < (gn : Int)) = True := by simp; omega
        rw [u0]
        have u2 : (16 < gn) = True := by simp; omega
        have hrd := HG.out _ h3.tail
        obtain ⟨e1, e2, e3, gb, go, rfl, e4⟩ := hrd.at (by omega)
        clear e1 e2 e3 e4
        have hsl := run_to16 (b := gb) (off := go) (n := gn) (c := gc) (by omega)
        have h4 := SatL.set h3 (i := 6) (.slice (some ⟨gb, go, none⟩) 16 gc)
        have h5 : SatL _ (cl c2 30 #[.int .u32 (xi : Int), .int .u32 100003, .int .u32 3, .int .u32 (q22 : Int), .int .u32 (ui : Int), .int .u32 (gi : Int), .slice (some ⟨gb, go, none⟩) 16 gc, .slice ba bn bc] :: _) := h4
        have H5 := hid h5
        have Hgn := hid hgn
        have hle : 16 ≤ gs.length := by omega
        have Hle := hid hle
        clear h3 h4 h5 h16 hrd hgn hle
        go_wp2_with fail
        go_meet
        exact ⟨some ⟨gb, go, none⟩, 16, gc, gs.take 16, by rw [List.length_take]; have := Hle.out; omega, Nat.le_refl _, hid (fun g hg => Hgs.out g (List.mem_of_mem_take hg)), hid (fun w' h' => RdW.pre (HG.out w' h') Hle.out), H5.out⟩
      · have u0 : decide ((16 : Int) < (gn : Int)) = false := by simp; omega
        have u1 : ((16 : Int) < (gn : Int)) = False := by simp; omega
        rw [u0]
        have u2 : (16 < gn) = False := by simp; omega
        have H3 := hid h3
        have Hgn := hid hgn
        have hle : gn ≤ 16 := by omega
        have Hle := hid hle
        clear h3 h16 hgn hle
        go_wp2_with fail
        go_meet
        exact ⟨ga, gn, gc, gs, Hgn.out, Hle.out, Hgs, HG, H3.out⟩
    case rest =>
      obtain ⟨ga', gn', gc', gs', hgn', hgn2, Hgs', HG', h4⟩ := hcut
      have Hgn' := hid hgn'
      have Hbn := hid hbn
      clear h3 y6 fy6 p1 p2 hgn hgn' hbn
      go_upto_block 0 with (go_at_call 19; (with_reducible refine (kW _).mono ?_); rintro ev w4 ⟨rfl, rfl⟩)
      have z1 := SatL.cell (h4 : SatL wc (cl _ _ _ :: _)) (i := 1) (v := .int .u32 100003) rfl
      have z2 := SatL.cell (h4 : SatL wc (cl _ _ _ :: _)) (i := 2) (v := .int .u32 3) rfl
      have z3 := SatL.cell (h4 : SatL wc (cl _ _ _ :: _)) (i := 3) (v := .int .u32 (q22 : Int)) rfl
      have f1 := SatL.free (h4 : SatL wc (cl _ _ _ :: _)) 1
      have f2 := SatL.free (h4 : SatL wc (cl _ _ _ :: _)) 2
      have f3 := SatL.free (h4 : SatL wc (cl _ _ _ :: _)) 3
      go_cut [5] from 38 to 57 (fun e wx => ∃ (p v q : Nat) (en : Int), e = .int .i64 en ∧ Hid (RefCase k xi p v q en) ∧ SatL wx (cl c2 30 #[.int .u32 (xi : Int), .int .u32 (p : Int), .int .u32 (v : Int), .int .u32 (q : Int), .int .u32 (ui : Int), .int .u32 (gi : Int), .slice ga' gn' gc', .slice ba bn bc] :: [old w]))
      case first =>
        have hk4 : k = 0 ∨ k = 1 ∨ k = 2 ∨ k = 3 ∨ k = 4 := by omega
        obtain ⟨s2, hs2⟩ : ∃ s2, s2 = 22 + q22 := ⟨_, rfl⟩
        have hw2 : IntKind.u32.wrap (22 + (q22 : Int)) = (s2 : Int) := by have := Hq21.out; rw [show (22 : Int) + (q22 : Int) = (s2 : Int) by omega]; exact u32_in s2 (by omega)
        have Hs2 := hid hs2
        have hx := Hc.out.1
        have Hxi := hid hx
        clear hs2 hk5 kW hx
        rcases hk4 with hk | hk | hk | hk | hk
        · have h5 : SatL _ (cl c2 30 #[.int .u32 (xi : Int), .int .u32 100004, .int .u32 3, .int .u32 (q22 : Int), .int .u32 (ui : Int), .int .u32 (gi : Int), .slice ga' gn' gc', .slice ba bn bc] :: _) := SatL.set h4 (i := 1) (.int .u32 100004)
          have H5 := hid h5
          have Hk := hid hk
          have t0 : ((k : Int) == 0) = true := by simp; omega
          clear h4 h5 hk
          go_wp2_with fail
          go_meet
          exact ⟨100004, 3, q22, 34, rfl, hid (Hk.out.symm ▸ case0 Hxi.out Hq21.out), H5.out⟩
        · have h5 : SatL _ (cl c2 30 #[.int .u32 (xi : Int), .int .u32 100003, .int .u32 2, .int .u32 (q22 : Int), .int .u32 (ui : Int), .int .u32 (gi : Int), .slice ga' gn' gc', .slice ba bn bc] :: _) := SatL.set h4 (i := 2) (.int .u32 2)
          have H5 := hid h5
          have Hk := hid hk
          have t0 : ((k : Int) == 0) = false := by simp; omega
          have t1 : ((k : Int) == 1) = true := by simp; omega
          clear h4 h5 hk
          go_wp2_with fail
          go_meet
          exact ⟨100003, 2, q22, 35, rfl, hid (Hk.out.symm ▸ case1 Hxi.out Hq21.out), H5.out⟩
        · have h5 : SatL _ (cl c2 30 #[.int .u32 (xi : Int), .int .u32 100003, .int .u32 3, .int .u32 (s2 : Int), .int .u32 (ui : Int), .int .u32 (gi : Int), .slice ga' gn' gc', .slice ba bn bc] :: _) := SatL.set h4 (i := 3) (.int .u32 (s2 : Int))
          have H5 := hid h5
          have Hk := hid hk
          have t0 : ((k : Int) == 0) = false := by simp; omega
          have t1 : ((k : Int) == 1) = false := by simp; omega
          have t2 : ((k : Int) == 2) = true := by simp; omega
          clear h4 h5 hk
          go_wp2_with fail
          go_meet
          exact ⟨100003, 3, s2, 36, rfl, hid (Hk.out.symm ▸ Hs2.out.symm ▸ case2 Hxi.out Hq21.out), H5.out⟩
        · have h5 : SatL _ (cl c2 30 #[.int .u32 (xi : Int), .int .u32 100005, .int .u32 3, .int .u32 (6 + (q22 : Int) % 9), .int .u32 (ui : Int), .int .u32 (gi : Int), .slice ga' gn' gc', .slice ba bn bc] :: _) := SatL.set (SatL.set h4 (i := 1) (.int .u32 100005)) (i := 3) (.int .u32 (6 + (q22 : Int) % 9))
          have H5 := hid h5
          have Hk := hid hk
          have t0 : ((k : Int) == 0) = false := by simp; omega
          have t1 : ((k : Int) == 1) = false := by simp; omega
          have t2 : ((k : Int) == 2) = false := by simp; omega
          have t3 : ((k : Int) == 3) = true := by simp; omega
          clear h4 h5 hk
          go_wp2_with fail
          go_meet
          exact ⟨100005, 3, 6 + q22 % 9, 36, rfl, hid (Hk.out.symm ▸ case3 Hxi.out Hq21.out), H5.out⟩
        · have h5 : SatL _ (cl c2 30 #[.int .u32 (xi : Int), .int .u32 100003, .int .u32 3, .int .u32 (q22 : Int), .int .u32 (ui : Int), .int .u32 (gi : Int), .slice ga' gn' gc', .slice ba bn bc] :: _) := h4
          have H5 := hid h5
          have Hk := hid hk
          have t0 : ((k : Int) == 0) = false := by simp; omega
          have t1 : ((k : Int) == 1) = false := by simp; omega
          have t2 : ((k : Int) == 2) = false := by simp; omega
          have t3 : ((k : Int) == 3) = false := by simp; omega
          clear h4 h5 hk
          go_wp2_with fail
          go_meet
          exact ⟨100003, 3, q22, 0, rfl, hid (Hk.out.symm ▸ case4 Hq21.out), H5.out⟩
      case rest =>
        obtain ⟨p, v, q, en, rfl, HRC, h5⟩ := hcut
        have hc := Hc.out
        have hrc := HRC.out.1
        have hok := cRef_ok (xi := xi) (p := p) (v := v) (q := q) (ui := ui) (gi := gi) (gs := gs') (bo := bo) (by omega) Hgs'.out
        have kw := writeRef hok (by have := Hbn.out; have := Hbn16.out; omega) h5 (fun w' h' => HG'.out w' h'.tail) (fun w' h' => HB.out w' h'.tail)
        obtain ⟨CB, hCB⟩ : ∃ CB, CB = (cRef xi p v q ui gi gs' bo).bytes := ⟨_, rfl⟩
        have hCl : CB.length ≤ 1000 + bn ∧ 28 ≤ CB.length := by
          have := Hbn.out
          have := Hgn'.out
          rw [hCB]
          unfold CallL.bytes
          simp only [List.length_append, be4_len, hib_len, CallL.who_len, List.length_take, List.length_cons, List.length_nil, cRef]
          omega
        rw [← hCB] at kw
        obtain ⟨cn, hcn⟩ : ∃ cn, CB.length = cn := ⟨_, rfl⟩
        have hcn2 : 28 ≤ cn ∧ cn ≤ 20000 := by have := Hbn16.out; omega
        obtain ⟨x0, x1, x2, x3, x4, x5, x6, x7⟩ := set8r_sat (h5 : SatL wc (cl c2 _ #[_, _, _, _, _, _, _, _] :: _))
        have Hok := hid hok
        have Hcn := hid hcn
        have Hcn2 := hid hcn2
        have HCB := hid hCB
        have hxi := hc.1
        have Hxi := hid hxi
        clear hc hrc hok hCl hcn hcn2 hCB hxi h5 h4 z1 z2 z3 f1 f2 f3
        go_upto_if 62 with (first
          | (go_at_call 13; (with_reducible refine kw.mono ?_); rintro ev w4 ⟨q', rfl, h6⟩; obtain ⟨ca, cc, rfl, _, _⟩ := Sl.valn h6 (m := cn) (by rw [bvs_len]; exact Hcn.out); clear kw)
          | (go_at_call 19; (with_reducible refine (kW _).mono ?_); rintro ev w5 ⟨rfl, rfl⟩; clear kW))
        clear x0 x1 x2 x3 x4 x5 x6 x7
        go_cut [5, 6] from 62 to 64 (fun e b wx => ∃ (E : Int) (B bs : List UInt8) (ba' : Option Addr) (bn' bc' : Nat), e = .int .i64 E ∧ b = .slice ba' bn' bc' ∧ Hid (readL B = .bad E bs ∧ answerL bs = (xi, [], E) ∧ bs.length ≤ 100 ∧ B.length ≤ 10000000 ∧ B.length = bn') ∧ SatL wx (SlB 5 (.slice ba' bn' bc') B :: cl c2 30 #[.int .u32 (xi : Int), .int .u32 (p : Int), .int .u32 (v : Int), .int .u32 (q : Int), .int .u32 (ui : Int), .int .u32 (gi : Int), .slice ga' gn' gc', .slice ba bn bc] :: [old w]))
        case first =>
          by_cases hk : k = 4
          · have u0 : ((k : Int) == 4) = true := by simp; omega
            rw [u0]
            obtain ⟨hv3, hen⟩ := HRC.out.2.1 hk
            subst hen
            obtain ⟨cb, co, rfl⟩ := Sl.addr h6 (by have := Hcn2.out; omega)
            have hi11 : (11 : Int) < (cn : Int) := by have := Hcn2.out; omega
            have hl11 : 11 < CB.length := by have := Hcn2.out; have := Hcn.out; omega
            have d0 := Sl.cell h6 (i := 11) (x := bv CB[11]) (bvs_get (List.getElem?_eq_getElem hl11))
            obtain ⟨y11, hy11⟩ : ∃ y11, y11 = bv CB[11] := ⟨_, rfl⟩
            rw [← hy11] at d0
            clear hy11
            have e0 := Sl.free h6 (co + 11)
            have h7 := Sl.set h6 (i := 11) (by rw [bvs_len]; exact hl11) (.int .u8 3)
            rw [show (bvs CB).set 11 (.int .u8 3) = bvs (CB.set 11 3) by rw [show (.int .u8 3 : Value) = bv 3 from rfl]; exact (List.map_set).symm] at h7
            have hrd : readL (CB.set 11 3) = .bad 31 (be4 [xi, 1, 1, 0, 2, 2]) := by
              rw [HCB.out, hv3]
              exact cRef_vers Hxi.out
            have HRD := hid hrd
            have H7 := hid h7
            clear h6 h7 hrd hk hv3 hl11 hk5
            go_wp2_with fail
            go_meet
            exact ⟨31, CB.set 11 3, be4 [xi, 1, 1, 0, 2, 2], some ⟨cb, co, none⟩, cn, cc, rfl, rfl, hid ⟨HRD.out, answerL_rpc Hxi.out, by rw [be4_len]; simp, by rw [List.length_set]; have := Hcn2.out; have := Hcn.out; omega, by rw [List.length_set]; exact Hcn.out⟩, H7.out⟩
          · have u0 : ((k : Int) == 4) = false := by simp; omega
            rw [u0]
            obtain ⟨hen, us, hkn, hul, hans⟩ := HRC.out.2.2 hk
            have hrd : readL CB = .bad en (be4 ([xi, 1, 0, 0, 0] ++ us)) := by rw [HCB.out]; exact cRef_rd Hok.out hen hkn
            have HRD := hid hrd
            have Hans := hid hans
            have Hul := hid hul
            have H6 := hid h6
            clear h6 hrd hk hen hkn hul hans hk5
            go_wp2_with fail
            go_meet
            exact ⟨en, CB, be4 ([xi, 1, 0, 0, 0] ++ us), ca, cn, cc, rfl, rfl, hid ⟨HRD.out, Hans.out, by rw [be4_len, List.length_append]; have := Hul.out; simp only [List.length_cons, List.length_nil]; omega, by have := Hcn2.out; have := Hcn.out; omega, Hcn.out⟩, H6.out⟩
        case rest =>
          obtain ⟨E, B, bs, ba', bn', bc', rfl, rfl, HR, h8⟩ := hcut
          have kp := parse_ok (b := B) HR.out.2.2.2.1 h8 (fun w' h' => SlB.rd h') (fun w' h' => HH.out w' h'.tail.tail)
          rw [HR.out.1] at kp
          have hbl : bs.length ≤ 10000000 := by have := HR.out.2.2.1; omega
          obtain ⟨sn, hsn⟩ : ∃ sn, bs.length = sn := ⟨_, rfl⟩
          have Hsn := hid hsn
          clear h8 hsn h6
          go_upto_region 23 with (first
            | (go_at_call 14; (with_reducible refine kp.mono ?_); rintro ev w8 ⟨q', rfl, nb, rfl, h9⟩; clear kp))
          have h10 := SatL.allocN (h9.alloc (.cells #[.int .u32 0, .int .u32 0, .int .u32 0, .int .u32 0, .int .u32 0, .int .u32 0, .slice none 0 0, .slice none 0 0] 30)) (.cells #[.pointer none] 53) (n := w8.heap.size + 1) (by simp)
          generalize (w8.alloc _).alloc _ = w9 at h10 ⊢
          generalize w8.heap.size + 1 = c9 at h10 ⊢
          generalize w8.heap.size = c7 at h10 ⊢
          have kA := as_ok (e := nb) (fun w' h' => HH.out w' h'.tail.tail.tail.tail) (h10 : SatL w9 (cl c9 53 #[.pointer none] :: _))
          clear h9 h10
          go_upto_region 25 with (go_at_call 20; (with_reducible refine kA.mono ?_); rintro ev w10 ⟨q', rfl, rfl, h11⟩; have u0 := SatL.cell (h11 : SatL w10 (cl c9 _ _ :: _)) (i := 0) (v := .pointer (some ⟨nb, 0, none⟩)) rfl; obtain ⟨wv, h12⟩ := sat_WrongR.1 (h11.pull 2 : SatL w10 (WrongR nb E _ :: _)); obtain ⟨ta, tc, rfl, _, _⟩ := Sl.valn h12.tail (m := sn) (by rw [bvs_len]; exact Hsn.out); have u1 := SatL.cell (h12 : SatL w10 (cl nb _ _ :: _)) (i := 0) (v := .int .i64 E) rfl; have u2 := SatL.cell (h12 : SatL w10 (cl nb _ _ :: _)) (i := 1) (v := .slice ta sn tc) rfl; clear kA)
          have ka := answer_ok (b := bs) hbl h12 (fun w' h' => SlB.rd h'.tail)
          rw [HR.out.2.1] at ka
          clear h11
          go_upto_region 26 with (go_at_call 21; (with_reducible refine ka.mono ?_); rintro ev w11 ⟨q', rfl, av, rfl, h13⟩; obtain ⟨aa, ac, rfl, _, _⟩ := Sl.valn h13 (m := 0) rfl; clear ka)
          have z0 := SatL.cell (h13.pull 6 : SatL w11 (cl c2 _ _ :: _)) (i := 0) (v := .int .u32 (xi : Int)) rfl
          have Hold := hid (h13.tail.tail.tail.tail.tail.tail.tail : SatL w11 [old w])
          clear h12 h13
          go_wp2_with fail
          go_ret
          exact Ret.mk ⟨rfl, Hold.out⟩
end
end Go.Proofs.YtpecmkkcepnpeaaDoor
