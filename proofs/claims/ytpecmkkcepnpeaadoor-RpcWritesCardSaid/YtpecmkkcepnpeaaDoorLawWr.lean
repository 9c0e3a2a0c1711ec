/- RpcWrites: the law's walk. Condition: errors.errorType's cell holds the type's handle. Printed by genwrites.py. -/
import Derived.Test.YtpecmkkcepnpeaaDoorRxN
import Derived.Test.YtpecmkkcepnpeaaDoorRxV
import Derived.Test.YtpecmkkcepnpeaaDoorRpcT
import Derived.Test.YtpecmkkcepnpeaaDoorRpcArgB
import Derived.Test.YtpecmkkcepnpeaaDoorLawSame
namespace Go.Proofs.YtpecmkkcepnpeaaDoor
set_option linter.unusedVariables false
set_option linter.unusedSimpArgs false
open Go.RowKit
section
variable {w : World} {L : List HP}
set_option maxRecDepth 100000 in
set_option maxHeartbeats 8000000 in
theorem writes_walk {c : CallL} {xid : Nat} {body b : List UInt8} {gv bv v va : Value} (w : World) (ok : c.ok) (hx : xid < 4294967296) (hg : RdW gv c.gids w) (hbo : RdV bv c.body w) (hv : RdV v body w) (hb : RdV va b w) (hH : HndW w) :
    Calls Tryd.prog 8 #[.agg (callC c.xid c.prog c.vers c.proc c.uid c.gid gv bv), .int .u32 (xid : Int), v, va] w (Ret fun q w' => q = .bool true ∧ SatL w' [old w]) := by
  obtain ⟨gn, hgn⟩ : ∃ gn, c.gids.length = gn := ⟨_, rfl⟩
  obtain ⟨bn, hbn⟩ : ∃ bn, c.body.length = bn := ⟨_, rfl⟩
  obtain ⟨vn, hvn⟩ : ∃ vn, body.length = vn := ⟨_, rfl⟩
  obtain ⟨an, han⟩ : ∃ an, b.length = an := ⟨_, rfl⟩
  obtain ⟨ga, gc, rfl, p1, p2⟩ := hg.valn
  obtain ⟨ba, bc, rfl, _, _⟩ := hbo.valn
  obtain ⟨wa, wc, rfl, _, _⟩ := hv.valn
  obtain ⟨aa, ac, rfl, _, _⟩ := hb.valn
  rw [hgn] at hg p1 ⊢
  rw [hbn] at hbo ⊢
  rw [hvn] at hv ⊢
  rw [han] at hb ⊢
  have h0 := (sat_old w).alloc (.cells (callC c.xid c.prog c.vers c.proc c.uid c.gid (.slice ga gn gc) (.slice ba bn bc)) 30)
  have kK := known_ok h0 (fun w' h' => hH.old w' h'.tail)
  have HG := hid hg.old
  have HB := hid hbo.old
  have HV := hid hv.old
  have HA := hid hb.old
  have Ok := hid ok
  have Hx := hid hx
  have Hbn := hid hbn
  have Hvn := hid hvn
  have Han := hid han
  clear hH hg hbo hv hb ok hx h0 hgn hbn hvn han
  by_cases l1 : 16384 < bn
  · have t1 : ((16384 : Int) < (bn : Int)) = True := by simp; omega
    have t1n : (16384 < bn) = True := by simp; omega
    clear l1
    go_enter Tryd.func8, Tryd.ntmps8
    go_wp2_with (first
      | (go_at_call 12; (with_reducible refine kK.mono ?_); rintro ev w1 ⟨q, rfl, rfl, hs⟩; have x7 := SatL.cell (hs : SatL w1 (cl _ _ _ :: _)) (i := 7) (v := .slice ba bn bc) rfl))
    go_ret
    exact Ret.mk ⟨rfl, hs.tail⟩
  by_cases l2 : 16384 < vn
  · have t1 : ((16384 : Int) < (bn : Int)) = False := by simp; omega
    have t1n : (16384 < bn) = False := by simp; omega
    have t2 : ((16384 : Int) < (vn : Int)) = True := by simp; omega
    have t2n : (16384 < vn) = True := by simp; omega
    clear l1 l2
    go_enter Tryd.func8, Tryd.ntmps8
    go_wp2_with (first
      | (go_at_call 12; (with_reducible refine kK.mono ?_); rintro ev w1 ⟨q, rfl, rfl, hs⟩; have x7 := SatL.cell (hs : SatL w1 (cl _ _ _ :: _)) (i := 7) (v := .slice ba bn bc) rfl))
    go_ret
    exact Ret.mk ⟨rfl, hs.tail⟩
  by_cases l3 : 16384 < an
  · have t1 : ((16384 : Int) < (bn : Int)) = False := by simp; omega
    have t1n : (16384 < bn) = False := by simp; omega
    have t2 : ((16384 : Int) < (vn : Int)) = False := by simp; omega
    have t2n : (16384 < vn) = False := by simp; omega
    have t3 : ((16384 : Int) < (an : Int)) = True := by simp; omega
    have t3n : (16384 < an) = True := by simp; omega
    clear l1 l2 l3
    go_enter Tryd.func8, Tryd.ntmps8
    go_wp2_with (first
      | (go_at_call 12; (with_reducible refine kK.mono ?_); rintro ev w1 ⟨q, rfl, rfl, hs⟩; have x7 := SatL.cell (hs : SatL w1 (cl _ _ _ :: _)) (i := 7) (v := .slice ba bn bc) rfl))
    go_ret
    exact Ret.mk ⟨rfl, hs.tail⟩
  have t1 : ((16384 : Int) < (bn : Int)) = False := by simp; omega
  have t1n : (16384 < bn) = False := by simp; omega
  have t2 : ((16384 : Int) < (vn : Int)) = False := by simp; omega
  have t2n : (16384 < vn) = False := by simp; omega
  have t3 : ((16384 : Int) < (an : Int)) = False := by simp; omega
  have t3n : (16384 < an) = False := by simp; omega
  have hlb : c.body.length ≤ 10000000 := by rw [Hbn.out]; omega
  have hlv : body.length ≤ 100000000 := by rw [Hvn.out]; omega
  have hla : b.length ≤ 10000000 := by rw [Han.out]; omega
  have hla2 : an ≤ 1000000000 := by omega
  have Hlb := hid hlb
  have Hlv := hid hlv
  have Hla := hid hla
  clear l1 l2 l3 hlb hlv hla
  obtain ⟨AQ, hAQ⟩ : ∃ AQ, answerL b = AQ := ⟨_, rfl⟩
  obtain ⟨AX, AD, AE⟩ := AQ
  have HAQ := hid hAQ
  obtain ⟨dn, hdn⟩ : ∃ dn, AD.length = dn := ⟨_, rfl⟩
  have Hdn := hid hdn
  clear hAQ hdn
  go_enter Tryd.func8, Tryd.ntmps8
  go_upto_region 5 with (first
    | (go_at_call 12; (with_reducible refine kK.mono ?_); rintro ev w1 ⟨q, rfl, rfl, hs⟩; have x7 := SatL.cell (hs : SatL w1 (cl _ _ _ :: _)) (i := 7) (v := .slice ba bn bc) rfl))
  have hs' : SatL w1 (cl w.heap.size 30 #[.int .u32 (c.xid : Int), .int .u32 (c.prog : Int), .int .u32 (c.vers : Int), .int .u32 (c.proc : Int), .int .u32 (c.uid : Int), .int .u32 (c.gid : Int), .slice ga gn gc, .slice ba bn bc] :: [old w]) := hs
  generalize w.heap.size = c4 at hs' x7 ⊢
  have gv1 := HA.out w1 hs'.tail
  have Hs := hid hs'
  clear hs hs' x7 kK
  go_upto_region 7 with (first
    | (at_builtin; refine wpList_newcopy (w := w1) (nb := w1.heap.size) rfl rfl (.tmp 32) (.tmp 33) rfl rfl rfl Hs.out Han.out gv1 hla2 ?_; intro a2 c2 w2 _ h2; have kp := answer_ok Hla.out h2 (fun w' h' => SlB.rd h'); rw [HAQ.out] at kp; clear h2)
    | (go_at_call 21; (with_reducible refine kp.mono ?_); rintro ev w4 ⟨q, rfl, pv, rfl, h4⟩; obtain ⟨pa, pc, rfl, _, _⟩ := Sl.valn h4 (m := dn) (by rw [bvs_len]; exact Hdn.out); have kr := refanswer_ok Hla.out h4 (fun w' h' => HA.out w' h'.tail.tail.tail); rw [HAQ.out] at kr; clear kp h4)
    | (go_at_call 22; (with_reducible refine kr.mono ?_); rintro ev w6 ⟨q, rfl, qv, rfl, h6⟩; obtain ⟨qa, qc, rfl, _, _⟩ := Sl.valn h6 (m := dn) (by rw [bvs_len]; exact Hdn.out); clear kr))
  have h7 : SatL w6 (cl c4 30 #[.int .u32 (c.xid : Int), .int .u32 (c.prog : Int), .int .u32 (c.vers : Int), .int .u32 (c.proc : Int), .int .u32 (c.uid : Int), .int .u32 (c.gid : Int), .slice ga gn gc, .slice ba bn bc] :: SlB 5 (.slice qa dn qc) AD :: SlB 5 (.slice pa dn pc) AD :: [old w]) := (((h6.pull 2).tail).bring [2, 0, 1])
  obtain ⟨SA, hSA⟩ : ∃ SA : ByteArray, ⟨AD.toArray⟩ = SA := ⟨_, rfl⟩
  have Hc8 := hid (fun (w' : World) (X : List HP) (h : SatL w' (cl c4 30 #[.int .u32 (c.xid : Int), .int .u32 (c.prog : Int), .int .u32 (c.vers : Int), .int .u32 (c.proc : Int), .int .u32 (c.uid : Int), .int .u32 (c.gid : Int), .slice ga gn gc, .slice ba bn bc] :: X)) => (set8r_sat h))
  clear h6 Hs gv1
  have hd := sat_drew.2 h7
  refine GoE.start (fun w' => w'.cell? ⟨c4, 0, none⟩ = some (.int .u32 (c.xid : Int)) ∧ w'.cell? ⟨c4, 1, none⟩ = some (.int .u32 (c.prog : Int)) ∧ w'.cell? ⟨c4, 2, none⟩ = some (.int .u32 (c.vers : Int)) ∧ w'.cell? ⟨c4, 3, none⟩ = some (.int .u32 (c.proc : Int)) ∧ w'.cell? ⟨c4, 4, none⟩ = some (.int .u32 (c.uid : Int)) ∧ w'.cell? ⟨c4, 5, none⟩ = some (.int .u32 (c.gid : Int)) ∧ w'.cell? ⟨c4, 6, none⟩ = some (.slice ga gn gc) ∧ w'.cell? ⟨c4, 7, none⟩ = some (.slice ba bn bc) ∧ (convert 27 9 (.slice qa dn qc)).run Tryd.prog w' = .ok (.string SA) w' ∧ (convert 27 9 (.slice pa dn pc)).run Tryd.prog w' = .ok (.string SA) w') 45 46 rfl (by kernel_rfl) ?_
  generalize w6.drew = w7 at hd ⊢
  clear h7
  have S0 : w7.cell? ⟨c4, 0, none⟩ = some (.int .u32 (c.xid : Int)) ∧ w7.cell? ⟨c4, 1, none⟩ = some (.int .u32 (c.prog : Int)) ∧ w7.cell? ⟨c4, 2, none⟩ = some (.int .u32 (c.vers : Int)) ∧ w7.cell? ⟨c4, 3, none⟩ = some (.int .u32 (c.proc : Int)) ∧ w7.cell? ⟨c4, 4, none⟩ = some (.int .u32 (c.uid : Int)) ∧ w7.cell? ⟨c4, 5, none⟩ = some (.int .u32 (c.gid : Int)) ∧ w7.cell? ⟨c4, 6, none⟩ = some (.slice ga gn gc) ∧ w7.cell? ⟨c4, 7, none⟩ = some (.slice ba bn bc) ∧ (convert 27 9 (.slice qa dn qc)).run Tryd.prog w7 = .ok (.string SA) w7 ∧ (convert 27 9 (.slice pa dn pc)).run Tryd.prog w7 = .ok (.string SA) w7 := ⟨(Hc8.out _ _ (hd.pull 0)).1, (Hc8.out _ _ (hd.pull 0)).2.1, (Hc8.out _ _ (hd.pull 0)).2.2.1, (Hc8.out _ _ (hd.pull 0)).2.2.2.1, (Hc8.out _ _ (hd.pull 0)).2.2.2.2.1, (Hc8.out _ _ (hd.pull 0)).2.2.2.2.2.1, (Hc8.out _ _ (hd.pull 0)).2.2.2.2.2.2.1, (Hc8.out _ _ (hd.pull 0)).2.2.2.2.2.2.2, (by have := RdB.conv (SlB.rd (hd.pull 1)); rw [hSA] at this; exact this), (by have := RdB.conv (SlB.rd (hd.pull 2)); rw [hSA] at this; exact this)⟩
  obtain ⟨SB, hSB⟩ : ∃ SB : ByteArray, ⟨c.bytes.toArray⟩ = SB := ⟨_, rfl⟩
  obtain ⟨SC, hSC⟩ : ∃ SC : ByteArray, ⟨(be4 [xid, 1, 0, 0, 0, 0] ++ body).toArray⟩ = SC := ⟨_, rfl⟩
  obtain ⟨SD, hSD⟩ : ∃ SD : ByteArray, ⟨(be4 [xid, 1, 0, 0, 0, 4]).toArray⟩ = SD := ⟨_, rfl⟩
  refine GoE.take (i := 0) (v := ?_) rfl (by decide) (by kernel_rfl) (by kernel_rfl) (by kernel_rfl) (by kernel_rfl) (fun _ _ _ h => h) (by rfl) ?_ (by assumption) ?_
  rotate_left
  · intro w hSw; (try dsimp only at hSw); go_simp; try (with_reducible rfl)
  try simp only [Act.put, List.setIfInBounds_toArray, List.set_cons_zero, List.set_cons_succ]
  refine GoE.take (i := 3) (v := ?_) rfl (by decide) (by kernel_rfl) (by kernel_rfl) (by kernel_rfl) (by kernel_rfl) (fun _ _ _ h => h) (by rfl) ?_ (by assumption) ?_
  rotate_left
  · intro w hSw; (try dsimp only at hSw); go_simp; try (with_reducible rfl)
  try simp only [Act.put, List.setIfInBounds_toArray, List.set_cons_zero, List.set_cons_succ]
  have kW := write_ok (c := c) (gv := .slice ga gn gc) (bv := .slice ba bn bc) Ok.out Hlb.out hd (fun w' h' => HG.out w' h'.tail.tail.tail) (fun w' h' => HB.out w' h'.tail.tail.tail)
  obtain ⟨on, hon⟩ : ∃ on, c.bytes.length = on := ⟨_, rfl⟩
  have Ho := hid hon
  obtain ⟨sn, hsn⟩ : ∃ sn, (be4 [xid, 1, 0, 0, 0, 0] ++ body).length = sn := ⟨_, rfl⟩
  have Hs := hid hsn
  obtain ⟨zn, hzn⟩ : ∃ zn, (be4 [xid, 1, 0, 0, 0, 4]).length = zn := ⟨_, rfl⟩
  have Hz := hid hzn
  clear hon hsn hzn
  refine GoE.one (i := 1) rfl (by kernel_rfl) (fun K hK => ?_)
  go_simp
  go_at_call 13
  (with_reducible refine kW.mono ?_)
  rintro ev w8 ⟨q, rfl, h8⟩
  obtain ⟨o1a, o1c, rfl, _, _⟩ := Sl.valn h8 (m := on) (by rw [bvs_len]; exact Ho.out)
  go_wp2_with fail
  have S1 : w8.cell? ⟨c4, 0, none⟩ = some (.int .u32 (c.xid : Int)) ∧ w8.cell? ⟨c4, 1, none⟩ = some (.int .u32 (c.prog : Int)) ∧ w8.cell? ⟨c4, 2, none⟩ = some (.int .u32 (c.vers : Int)) ∧ w8.cell? ⟨c4, 3, none⟩ = some (.int .u32 (c.proc : Int)) ∧ w8.cell? ⟨c4, 4, none⟩ = some (.int .u32 (c.uid : Int)) ∧ w8.cell? ⟨c4, 5, none⟩ = some (.int .u32 (c.gid : Int)) ∧ w8.cell? ⟨c4, 6, none⟩ = some (.slice ga gn gc) ∧ w8.cell? ⟨c4, 7, none⟩ = some (.slice ba bn bc) ∧ (convert 27 9 (.slice qa dn qc)).run Tryd.prog w8 = .ok (.string SA) w8 ∧ (convert 27 9 (.slice pa dn pc)).run Tryd.prog w8 = .ok (.string SA) w8 ∧ (convert 27 9 (.slice o1a on o1c)).run Tryd.prog w8 = .ok (.string SB) w8 := ⟨(Hc8.out _ _ (h8.pull 1)).1, (Hc8.out _ _ (h8.pull 1)).2.1, (Hc8.out _ _ (h8.pull 1)).2.2.1, (Hc8.out _ _ (h8.pull 1)).2.2.2.1, (Hc8.out _ _ (h8.pull 1)).2.2.2.2.1, (Hc8.out _ _ (h8.pull 1)).2.2.2.2.2.1, (Hc8.out _ _ (h8.pull 1)).2.2.2.2.2.2.1, (Hc8.out _ _ (h8.pull 1)).2.2.2.2.2.2.2, (by have := RdB.conv (SlB.rd (h8.pull 2)); rw [hSA] at this; exact this), (by have := RdB.conv (SlB.rd (h8.pull 3)); rw [hSA] at this; exact this), (by have := RdB.conv (SlB.rd (h8.pull 0)); rw [hSB] at this; exact this)⟩
  have S2 : w8.cell? ⟨c4, 0, none⟩ = some (.int .u32 (c.xid : Int)) ∧ w8.cell? ⟨c4, 1, none⟩ = some (.int .u32 (c.prog : Int)) ∧ w8.cell? ⟨c4, 2, none⟩ = some (.int .u32 (c.vers : Int)) ∧ w8.cell? ⟨c4, 3, none⟩ = some (.int .u32 (c.proc : Int)) ∧ w8.cell? ⟨c4, 4, none⟩ = some (.int .u32 (c.uid : Int)) ∧ w8.cell? ⟨c4, 5, none⟩ = some (.int .u32 (c.gid : Int)) ∧ w8.cell? ⟨c4, 6, none⟩ = some (.slice ga gn gc) ∧ w8.cell? ⟨c4, 7, none⟩ = some (.slice ba bn bc) ∧ (convert 27 9 (.slice qa dn qc)).run Tryd.prog w8 = .ok (.string SA) w8 ∧ (convert 27 9 (.slice pa dn pc)).run Tryd.prog w8 = .ok (.string SA) w8 := by
    obtain ⟨u0, u1, u2, u3, u4, u5, u6, u7, u8, u9, _⟩ := S1
    exact ⟨u0, u1, u2, u3, u4, u5, u6, u7, u8, u9⟩
  refine hK.out _ _ (fun _ => S2) ?_
  clear hK K S0 S2 kW
  try simp only [Act.put, List.setIfInBounds_toArray, List.set_cons_zero, List.set_cons_succ]
  refine GoE.more (fun w' => w'.cell? ⟨c4, 0, none⟩ = some (.int .u32 (c.xid : Int)) ∧ w'.cell? ⟨c4, 1, none⟩ = some (.int .u32 (c.prog : Int)) ∧ w'.cell? ⟨c4, 2, none⟩ = some (.int .u32 (c.vers : Int)) ∧ w'.cell? ⟨c4, 3, none⟩ = some (.int .u32 (c.proc : Int)) ∧ w'.cell? ⟨c4, 4, none⟩ = some (.int .u32 (c.uid : Int)) ∧ w'.cell? ⟨c4, 5, none⟩ = some (.int .u32 (c.gid : Int)) ∧ w'.cell? ⟨c4, 6, none⟩ = some (.slice ga gn gc) ∧ w'.cell? ⟨c4, 7, none⟩ = some (.slice ba bn bc) ∧ (convert 27 9 (.slice qa dn qc)).run Tryd.prog w' = .ok (.string SA) w' ∧ (convert 27 9 (.slice pa dn pc)).run Tryd.prog w' = .ok (.string SA) w' ∧ (convert 27 9 (.slice o1a on o1c)).run Tryd.prog w' = .ok (.string SB) w') (fun w' hw' => by
    obtain ⟨u0, u1, u2, u3, u4, u5, u6, u7, u8, u9, _⟩ := hw'
    exact ⟨u0, u1, u2, u3, u4, u5, u6, u7, u8, u9⟩) ?_
  have S0 := S1
  clear S1
  have kT := theirs_ok (xi := c.xid) (pr := c.prog) (ve := c.vers) (po := c.proc) (ui := c.uid) (gi := c.gid) (ga := ga) (gn := gn) (gc := gc) (ba := ba) (bn := bn) (bc := bc) h8
  clear hd
  refine GoE.take (i := 2) (v := ?_) rfl (by decide) (by kernel_rfl) (by kernel_rfl) (by kernel_rfl) (by kernel_rfl) (fun _ _ _ h => h) (by rfl) ?_ (by assumption) ?_
  rotate_left
  · intro w hSw; (try dsimp only at hSw); go_simp; try (with_reducible rfl)
  try simp only [Act.put, List.setIfInBounds_toArray, List.set_cons_zero, List.set_cons_succ]
  refine GoE.one (i := 4) rfl (by kernel_rfl) (fun K hK => ?_)
  go_simp
  go_at_call 24
  (with_reducible refine kT.mono ?_)
  rintro ev w9 ⟨q, rfl, rfl, h9⟩
  go_wp2_with fail
  have S1 : w9.cell? ⟨c4, 0, none⟩ = some (.int .u32 (c.xid : Int)) ∧ w9.cell? ⟨c4, 1, none⟩ = some (.int .u32 (c.prog : Int)) ∧ w9.cell? ⟨c4, 2, none⟩ = some (.int .u32 (c.vers : Int)) ∧ w9.cell? ⟨c4, 3, none⟩ = some (.int .u32 (c.proc : Int)) ∧ w9.cell? ⟨c4, 4, none⟩ = some (.int .u32 (c.uid : Int)) ∧ w9.cell? ⟨c4, 5, none⟩ = some (.int .u32 (c.gid : Int)) ∧ w9.cell? ⟨c4, 6, none⟩ = some (.slice ga gn gc) ∧ w9.cell? ⟨c4, 7, none⟩ = some (.slice ba bn bc) ∧ (convert 27 9 (.slice qa dn qc)).run Tryd.prog w9 = .ok (.string SA) w9 ∧ (convert 27 9 (.slice pa dn pc)).run Tryd.prog w9 = .ok (.string SA) w9 ∧ (convert 27 9 (.slice o1a on o1c)).run Tryd.prog w9 = .ok (.string SB) w9 := ⟨(Hc8.out _ _ (h9.pull 1)).1, (Hc8.out _ _ (h9.pull 1)).2.1, (Hc8.out _ _ (h9.pull 1)).2.2.1, (Hc8.out _ _ (h9.pull 1)).2.2.2.1, (Hc8.out _ _ (h9.pull 1)).2.2.2.2.1, (Hc8.out _ _ (h9.pull 1)).2.2.2.2.2.1, (Hc8.out _ _ (h9.pull 1)).2.2.2.2.2.2.1, (Hc8.out _ _ (h9.pull 1)).2.2.2.2.2.2.2, (by have := RdB.conv (SlB.rd (h9.pull 2)); rw [hSA] at this; exact this), (by have := RdB.conv (SlB.rd (h9.pull 3)); rw [hSA] at this; exact this), (by have := RdB.conv (SlB.rd (h9.pull 0)); rw [hSB] at this; exact this)⟩
  refine hK.out _ _ (fun _ => S1) ?_
  clear hK K S0 kT
  try simp only [Act.put, List.setIfInBounds_toArray, List.set_cons_zero, List.set_cons_succ]
  have S0 := S1
  clear S1
  have kR := refwrite_ok (c := c) (gv := .slice ga gn gc) (bv := .slice ba bn bc) Ok.out Hlb.out h9 (fun w' h' => HG.out w' h'.tail.tail.tail.tail) (fun w' h' => HB.out w' h'.tail.tail.tail.tail)
  clear h8
  refine GoE.one (i := 5) rfl (by kernel_rfl) (fun K hK => ?_)
  go_simp
  go_at_call 23
  (with_reducible refine kR.mono ?_)
  rintro ev w10 ⟨q, rfl, h10⟩
  obtain ⟨o2a, o2c, rfl, _, _⟩ := Sl.valn h10 (m := on) (by rw [bvs_len]; exact Ho.out)
  go_wp2_with fail
  have S1 : w10.cell? ⟨c4, 0, none⟩ = some (.int .u32 (c.xid : Int)) ∧ w10.cell? ⟨c4, 1, none⟩ = some (.int .u32 (c.prog : Int)) ∧ w10.cell? ⟨c4, 2, none⟩ = some (.int .u32 (c.vers : Int)) ∧ w10.cell? ⟨c4, 3, none⟩ = some (.int .u32 (c.proc : Int)) ∧ w10.cell? ⟨c4, 4, none⟩ = some (.int .u32 (c.uid : Int)) ∧ w10.cell? ⟨c4, 5, none⟩ = some (.int .u32 (c.gid : Int)) ∧ w10.cell? ⟨c4, 6, none⟩ = some (.slice ga gn gc) ∧ w10.cell? ⟨c4, 7, none⟩ = some (.slice ba bn bc) ∧ (convert 27 9 (.slice qa dn qc)).run Tryd.prog w10 = .ok (.string SA) w10 ∧ (convert 27 9 (.slice pa dn pc)).run Tryd.prog w10 = .ok (.string SA) w10 ∧ (convert 27 9 (.slice o1a on o1c)).run Tryd.prog w10 = .ok (.string SB) w10 ∧ (convert 27 9 (.slice o2a on o2c)).run Tryd.prog w10 = .ok (.string SB) w10 := ⟨(Hc8.out _ _ (h10.pull 2)).1, (Hc8.out _ _ (h10.pull 2)).2.1, (Hc8.out _ _ (h10.pull 2)).2.2.1, (Hc8.out _ _ (h10.pull 2)).2.2.2.1, (Hc8.out _ _ (h10.pull 2)).2.2.2.2.1, (Hc8.out _ _ (h10.pull 2)).2.2.2.2.2.1, (Hc8.out _ _ (h10.pull 2)).2.2.2.2.2.2.1, (Hc8.out _ _ (h10.pull 2)).2.2.2.2.2.2.2, (by have := RdB.conv (SlB.rd (h10.pull 3)); rw [hSA] at this; exact this), (by have := RdB.conv (SlB.rd (h10.pull 4)); rw [hSA] at this; exact this), (by have := RdB.conv (SlB.rd (h10.pull 1)); rw [hSB] at this; exact this), (by have := RdB.conv (SlB.rd (h10.pull 0)); rw [hSB] at this; exact this)⟩
  have S2 : w10.cell? ⟨c4, 0, none⟩ = some (.int .u32 (c.xid : Int)) ∧ w10.cell? ⟨c4, 1, none⟩ = some (.int .u32 (c.prog : Int)) ∧ w10.cell? ⟨c4, 2, none⟩ = some (.int .u32 (c.vers : Int)) ∧ w10.cell? ⟨c4, 3, none⟩ = some (.int .u32 (c.proc : Int)) ∧ w10.cell? ⟨c4, 4, none⟩ = some (.int .u32 (c.uid : Int)) ∧ w10.cell? ⟨c4, 5, none⟩ = some (.int .u32 (c.gid : Int)) ∧ w10.cell? ⟨c4, 6, none⟩ = some (.slice ga gn gc) ∧ w10.cell? ⟨c4, 7, none⟩ = some (.slice ba bn bc) ∧ (convert 27 9 (.slice qa dn qc)).run Tryd.prog w10 = .ok (.string SA) w10 ∧ (convert 27 9 (.slice pa dn pc)).run Tryd.prog w10 = .ok (.string SA) w10 ∧ (convert 27 9 (.slice o1a on o1c)).run Tryd.prog w10 = .ok (.string SB) w10 := by
    obtain ⟨u0, u1, u2, u3, u4, u5, u6, u7, u8, u9, u10, _⟩ := S1
    exact ⟨u0, u1, u2, u3, u4, u5, u6, u7, u8, u9, u10⟩
  refine hK.out _ _ (fun _ => S2) ?_
  clear hK K S0 S2 kR
  try simp only [Act.put, List.setIfInBounds_toArray, List.set_cons_zero, List.set_cons_succ]
  refine GoE.more (fun w' => w'.cell? ⟨c4, 0, none⟩ = some (.int .u32 (c.xid : Int)) ∧ w'.cell? ⟨c4, 1, none⟩ = some (.int .u32 (c.prog : Int)) ∧ w'.cell? ⟨c4, 2, none⟩ = some (.int .u32 (c.vers : Int)) ∧ w'.cell? ⟨c4, 3, none⟩ = some (.int .u32 (c.proc : Int)) ∧ w'.cell? ⟨c4, 4, none⟩ = some (.int .u32 (c.uid : Int)) ∧ w'.cell? ⟨c4, 5, none⟩ = some (.int .u32 (c.gid : Int)) ∧ w'.cell? ⟨c4, 6, none⟩ = some (.slice ga gn gc) ∧ w'.cell? ⟨c4, 7, none⟩ = some (.slice ba bn bc) ∧ (convert 27 9 (.slice qa dn qc)).run Tryd.prog w' = .ok (.string SA) w' ∧ (convert 27 9 (.slice pa dn pc)).run Tryd.prog w' = .ok (.string SA) w' ∧ (convert 27 9 (.slice o1a on o1c)).run Tryd.prog w' = .ok (.string SB) w' ∧ (convert 27 9 (.slice o2a on o2c)).run Tryd.prog w' = .ok (.string SB) w') (fun w' hw' => by
    obtain ⟨u0, u1, u2, u3, u4, u5, u6, u7, u8, u9, u10, _⟩ := hw'
    exact ⟨u0, u1, u2, u3, u4, u5, u6, u7, u8, u9, u10⟩) ?_
  have S0 := S1
  clear S1
  have kS := success_ok Hx.out Hlv.out h10 (fun w' h' => HV.out w' h'.tail.tail.tail.tail.tail)
  clear h9
  refine GoE.take (i := 6) (v := ?_) rfl (by decide) (by kernel_rfl) (by kernel_rfl) (by kernel_rfl) (by kernel_rfl) (fun _ _ _ h => h) (by rfl) ?_ (by assumption) ?_
  rotate_left
  · intro w hSw; (try dsimp only at hSw); go_simp; try (with_reducible rfl)
  try simp only [Act.put, List.setIfInBounds_toArray, List.set_cons_zero, List.set_cons_succ]
  refine GoE.take (i := 7) (v := ?_) rfl (by decide) (by kernel_rfl) (by kernel_rfl) (by kernel_rfl) (by kernel_rfl) (fun _ _ _ h => h) (by rfl) ?_ (by assumption) ?_
  rotate_left
  · intro w hSw; (try dsimp only at hSw); go_simp; try (with_reducible rfl)
  try simp only [Act.put, List.setIfInBounds_toArray, List.set_cons_zero, List.set_cons_succ]
  refine GoE.take (i := 8) (v := ?_) rfl (by decide) (by kernel_rfl) (by kernel_rfl) (by kernel_rfl) (by kernel_rfl) (fun _ _ _ h => h) (by rfl) ?_ (by assumption) ?_
  rotate_left
  · intro w hSw; (try dsimp only at hSw); go_simp; try (with_reducible rfl)
  try simp only [Act.put, List.setIfInBounds_toArray, List.set_cons_zero, List.set_cons_succ]
  refine GoE.take (i := 9) (v := ?_) rfl (by decide) (by kernel_rfl) (by kernel_rfl) (by kernel_rfl) (by kernel_rfl) (fun _ _ _ h => h) (by rfl) ?_ (by assumption) ?_
  rotate_left
  · intro w hSw; (try dsimp only at hSw); go_simp; try (with_reducible rfl)
  try simp only [Act.put, List.setIfInBounds_toArray, List.set_cons_zero, List.set_cons_succ]
  refine GoE.take (i := 10) (v := ?_) rfl (by decide) (by kernel_rfl) (by kernel_rfl) (by kernel_rfl) (by kernel_rfl) (fun _ _ _ h => h) (by rfl) ?_ (by assumption) ?_
  rotate_left
  · intro w hSw; (try dsimp only at hSw); go_simp; try (with_reducible rfl)
  try simp only [Act.put, List.setIfInBounds_toArray, List.set_cons_zero, List.set_cons_succ]
  refine GoE.take (i := 13) (v := ?_) rfl (by decide) (by kernel_rfl) (by kernel_rfl) (by kernel_rfl) (by kernel_rfl) (fun _ _ _ h => h) (by rfl) ?_ (by assumption) ?_
  rotate_left
  · intro w hSw; (try dsimp only at hSw); go_simp; try (with_reducible rfl)
  try simp only [Act.put, List.setIfInBounds_toArray, List.set_cons_zero, List.set_cons_succ]
  refine GoE.take (i := 14) (v := ?_) rfl (by decide) (by kernel_rfl) (by kernel_rfl) (by kernel_rfl) (by kernel_rfl) (fun _ _ _ h => h) (by rfl) ?_ (by assumption) ?_
  rotate_left
  · intro w hSw; (try dsimp only at hSw); go_simp; try (with_reducible rfl)
  try simp only [Act.put, List.setIfInBounds_toArray, List.set_cons_zero, List.set_cons_succ]
  refine GoE.one (i := 11) rfl (by kernel_rfl) (fun K hK => ?_)
  go_simp
  go_at_call 25
  (with_reducible refine kS.mono ?_)
  rintro ev w11 ⟨q, rfl, h11⟩
  obtain ⟨s1a, s1c, rfl, _, _⟩ := Sl.valn h11 (m := sn) (by rw [bvs_len]; exact Hs.out)
  go_wp2_with fail
  have S1 : w11.cell? ⟨c4, 0, none⟩ = some (.int .u32 (c.xid : Int)) ∧ w11.cell? ⟨c4, 1, none⟩ = some (.int .u32 (c.prog : Int)) ∧ w11.cell? ⟨c4, 2, none⟩ = some (.int .u32 (c.vers : Int)) ∧ w11.cell? ⟨c4, 3, none⟩ = some (.int .u32 (c.proc : Int)) ∧ w11.cell? ⟨c4, 4, none⟩ = some (.int .u32 (c.uid : Int)) ∧ w11.cell? ⟨c4, 5, none⟩ = some (.int .u32 (c.gid : Int)) ∧ w11.cell? ⟨c4, 6, none⟩ = some (.slice ga gn gc) ∧ w11.cell? ⟨c4, 7, none⟩ = some (.slice ba bn bc) ∧ (convert 27 9 (.slice qa dn qc)).run Tryd.prog w11 = .ok (.string SA) w11 ∧ (convert 27 9 (.slice pa dn pc)).run Tryd.prog w11 = .ok (.string SA) w11 ∧ (convert 27 9 (.slice o1a on o1c)).run Tryd.prog w11 = .ok (.string SB) w11 ∧ (convert 27 9 (.slice o2a on o2c)).run Tryd.prog w11 = .ok (.string SB) w11 ∧ (convert 27 9 (.slice s1a sn s1c)).run Tryd.prog w11 = .ok (.string SC) w11 := ⟨(Hc8.out _ _ (h11.pull 3)).1, (Hc8.out _ _ (h11.pull 3)).2.1, (Hc8.out _ _ (h11.pull 3)).2.2.1, (Hc8.out _ _ (h11.pull 3)).2.2.2.1, (Hc8.out _ _ (h11.pull 3)).2.2.2.2.1, (Hc8.out _ _ (h11.pull 3)).2.2.2.2.2.1, (Hc8.out _ _ (h11.pull 3)).2.2.2.2.2.2.1, (Hc8.out _ _ (h11.pull 3)).2.2.2.2.2.2.2, (by have := RdB.conv (SlB.rd (h11.pull 4)); rw [hSA] at this; exact this), (by have := RdB.conv (SlB.rd (h11.pull 5)); rw [hSA] at this; exact this), (by have := RdB.conv (SlB.rd (h11.pull 2)); rw [hSB] at this; exact this), (by have := RdB.conv (SlB.rd (h11.pull 1)); rw [hSB] at this; exact this), (by have := RdB.conv (SlB.rd (h11.pull 0)); rw [hSC] at this; exact this)⟩
  have S2 : w11.cell? ⟨c4, 0, none⟩ = some (.int .u32 (c.xid : Int)) ∧ w11.cell? ⟨c4, 1, none⟩ = some (.int .u32 (c.prog : Int)) ∧ w11.cell? ⟨c4, 2, none⟩ = some (.int .u32 (c.vers : Int)) ∧ w11.cell? ⟨c4, 3, none⟩ = some (.int .u32 (c.proc : Int)) ∧ w11.cell? ⟨c4, 4, none⟩ = some (.int .u32 (c.uid : Int)) ∧ w11.cell? ⟨c4, 5, none⟩ = some (.int .u32 (c.gid : Int)) ∧ w11.cell? ⟨c4, 6, none⟩ = some (.slice ga gn gc) ∧ w11.cell? ⟨c4, 7, none⟩ = some (.slice ba bn bc) ∧ (convert 27 9 (.slice qa dn qc)).run Tryd.prog w11 = .ok (.string SA) w11 ∧ (convert 27 9 (.slice pa dn pc)).run Tryd.prog w11 = .ok (.string SA) w11 ∧ (convert 27 9 (.slice o1a on o1c)).run Tryd.prog w11 = .ok (.string SB) w11 ∧ (convert 27 9 (.slice o2a on o2c)).run Tryd.prog w11 = .ok (.string SB) w11 := by
    obtain ⟨u0, u1, u2, u3, u4, u5, u6, u7, u8, u9, u10, u11, _⟩ := S1
    exact ⟨u0, u1, u2, u3, u4, u5, u6, u7, u8, u9, u10, u11⟩
  refine hK.out _ _ (fun _ => S2) ?_
  clear hK K S0 S2 kS
  try simp only [Act.put, List.setIfInBounds_toArray, List.set_cons_zero, List.set_cons_succ]
  refine GoE.more (fun w' => w'.cell? ⟨c4, 0, none⟩ = some (.int .u32 (c.xid : Int)) ∧ w'.cell? ⟨c4, 1, none⟩ = some (.int .u32 (c.prog : Int)) ∧ w'.cell? ⟨c4, 2, none⟩ = some (.int .u32 (c.vers : Int)) ∧ w'.cell? ⟨c4, 3, none⟩ = some (.int .u32 (c.proc : Int)) ∧ w'.cell? ⟨c4, 4, none⟩ = some (.int .u32 (c.uid : Int)) ∧ w'.cell? ⟨c4, 5, none⟩ = some (.int .u32 (c.gid : Int)) ∧ w'.cell? ⟨c4, 6, none⟩ = some (.slice ga gn gc) ∧ w'.cell? ⟨c4, 7, none⟩ = some (.slice ba bn bc) ∧ (convert 27 9 (.slice qa dn qc)).run Tryd.prog w' = .ok (.string SA) w' ∧ (convert 27 9 (.slice pa dn pc)).run Tryd.prog w' = .ok (.string SA) w' ∧ (convert 27 9 (.slice o1a on o1c)).run Tryd.prog w' = .ok (.string SB) w' ∧ (convert 27 9 (.slice o2a on o2c)).run Tryd.prog w' = .ok (.string SB) w' ∧ (convert 27 9 (.slice s1a sn s1c)).run Tryd.prog w' = .ok (.string SC) w') (fun w' hw' => by
    obtain ⟨u0, u1, u2, u3, u4, u5, u6, u7, u8, u9, u10, u11, _⟩ := hw'
    exact ⟨u0, u1, u2, u3, u4, u5, u6, u7, u8, u9, u10, u11⟩) ?_
  have S0 := S1
  clear S1
  have kU := refsuccess_ok Hx.out Hlv.out h11 (fun w' h' => HV.out w' h'.tail.tail.tail.tail.tail.tail)
  clear h10
  refine GoE.take (i := 12) (v := ?_) rfl (by decide) (by kernel_rfl) (by kernel_rfl) (by kernel_rfl) (by kernel_rfl) (fun _ _ _ h => h) (by rfl) ?_ (by assumption) ?_
  rotate_left
  · intro w hSw; (try dsimp only at hSw); go_simp; try (with_reducible rfl)
  try simp only [Act.put, List.setIfInBounds_toArray, List.set_cons_zero, List.set_cons_succ]
  refine GoE.one (i := 15) rfl (by kernel_rfl) (fun K hK => ?_)
  go_simp
  go_at_call 26
  (with_reducible refine kU.mono ?_)
  rintro ev w12 ⟨q, rfl, h12⟩
  obtain ⟨s2a, s2c, rfl, _, _⟩ := Sl.valn h12 (m := sn) (by rw [bvs_len]; exact Hs.out)
  go_wp2_with fail
  have S1 : w12.cell? ⟨c4, 0, none⟩ = some (.int .u32 (c.xid : Int)) ∧ w12.cell? ⟨c4, 1, none⟩ = some (.int .u32 (c.prog : Int)) ∧ w12.cell? ⟨c4, 2, none⟩ = some (.int .u32 (c.vers : Int)) ∧ w12.cell? ⟨c4, 3, none⟩ = some (.int .u32 (c.proc : Int)) ∧ w12.cell? ⟨c4, 4, none⟩ = some (.int .u32 (c.uid : Int)) ∧ w12.cell? ⟨c4, 5, none⟩ = some (.int .u32 (c.gid : Int)) ∧ w12.cell? ⟨c4, 6, none⟩ = some (.slice ga gn gc) ∧ w12.cell? ⟨c4, 7, none⟩ = some (.slice ba bn bc) ∧ (convert 27 9 (.slice qa dn qc)).run Tryd.prog w12 = .ok (.string SA) w12 ∧ (convert 27 9 (.slice pa dn pc)).run Tryd.prog w12 = .ok (.string SA) w12 ∧ (convert 27 9 (.slice o1a on o1c)).run Tryd.prog w12 = .ok (.string SB) w12 ∧ (convert 27 9 (.slice o2a on o2c)).run Tryd.prog w12 = .ok (.string SB) w12 ∧ (convert 27 9 (.slice s1a sn s1c)).run Tryd.prog w12 = .ok (.string SC) w12 ∧ (convert 27 9 (.slice s2a sn s2c)).run Tryd.prog w12 = .ok (.string SC) w12 := ⟨(Hc8.out _ _ (h12.pull 4)).1, (Hc8.out _ _ (h12.pull 4)).2.1, (Hc8.out _ _ (h12.pull 4)).2.2.1, (Hc8.out _ _ (h12.pull 4)).2.2.2.1, (Hc8.out _ _ (h12.pull 4)).2.2.2.2.1, (Hc8.out _ _ (h12.pull 4)).2.2.2.2.2.1, (Hc8.out _ _ (h12.pull 4)).2.2.2.2.2.2.1, (Hc8.out _ _ (h12.pull 4)).2.2.2.2.2.2.2, (by have := RdB.conv (SlB.rd (h12.pull 5)); rw [hSA] at this; exact this), (by have := RdB.conv (SlB.rd (h12.pull 6)); rw [hSA] at this; exact this), (by have := RdB.conv (SlB.rd (h12.pull 3)); rw [hSB] at this; exact this), (by have := RdB.conv (SlB.rd (h12.pull 2)); rw [hSB] at this; exact this), (by have := RdB.conv (SlB.rd (h12.pull 1)); rw [hSC] at this; exact this), (by have := RdB.conv (SlB.rd (h12.pull 0)); rw [hSC] at this; exact this)⟩
  have S2 : w12.cell? ⟨c4, 0, none⟩ = some (.int .u32 (c.xid : Int)) ∧ w12.cell? ⟨c4, 1, none⟩ = some (.int .u32 (c.prog : Int)) ∧ w12.cell? ⟨c4, 2, none⟩ = some (.int .u32 (c.vers : Int)) ∧ w12.cell? ⟨c4, 3, none⟩ = some (.int .u32 (c.proc : Int)) ∧ w12.cell? ⟨c4, 4, none⟩ = some (.int .u32 (c.uid : Int)) ∧ w12.cell? ⟨c4, 5, none⟩ = some (.int .u32 (c.gid : Int)) ∧ w12.cell? ⟨c4, 6, none⟩ = some (.slice ga gn gc) ∧ w12.cell? ⟨c4, 7, none⟩ = some (.slice ba bn bc) ∧ (convert 27 9 (.slice qa dn qc)).run Tryd.prog w12 = .ok (.string SA) w12 ∧ (convert 27 9 (.slice pa dn pc)).run Tryd.prog w12 = .ok (.string SA) w12 ∧ (convert 27 9 (.slice o1a on o1c)).run Tryd.prog w12 = .ok (.string SB) w12 ∧ (convert 27 9 (.slice o2a on o2c)).run Tryd.prog w12 = .ok (.string SB) w12 ∧ (convert 27 9 (.slice s1a sn s1c)).run Tryd.prog w12 = .ok (.string SC) w12 := by
    obtain ⟨u0, u1, u2, u3, u4, u5, u6, u7, u8, u9, u10, u11, u12, _⟩ := S1
    exact ⟨u0, u1, u2, u3, u4, u5, u6, u7, u8, u9, u10, u11, u12⟩
  refine hK.out _ _ (fun _ => S2) ?_
  clear hK K S0 S2 kU
  try simp only [Act.put, List.setIfInBounds_toArray, List.set_cons_zero, List.set_cons_succ]
  refine GoE.more (fun w' => w'.cell? ⟨c4, 0, none⟩ = some (.int .u32 (c.xid : Int)) ∧ w'.cell? ⟨c4, 1, none⟩ = some (.int .u32 (c.prog : Int)) ∧ w'.cell? ⟨c4, 2, none⟩ = some (.int .u32 (c.vers : Int)) ∧ w'.cell? ⟨c4, 3, none⟩ = some (.int .u32 (c.proc : Int)) ∧ w'.cell? ⟨c4, 4, none⟩ = some (.int .u32 (c.uid : Int)) ∧ w'.cell? ⟨c4, 5, none⟩ = some (.int .u32 (c.gid : Int)) ∧ w'.cell? ⟨c4, 6, none⟩ = some (.slice ga gn gc) ∧ w'.cell? ⟨c4, 7, none⟩ = some (.slice ba bn bc) ∧ (convert 27 9 (.slice qa dn qc)).run Tryd.prog w' = .ok (.string SA) w' ∧ (convert 27 9 (.slice pa dn pc)).run Tryd.prog w' = .ok (.string SA) w' ∧ (convert 27 9 (.slice o1a on o1c)).run Tryd.prog w' = .ok (.string SB) w' ∧ (convert 27 9 (.slice o2a on o2c)).run Tryd.prog w' = .ok (.string SB) w' ∧ (convert 27 9 (.slice s1a sn s1c)).run Tryd.prog w' = .ok (.string SC) w' ∧ (convert 27 9 (.slice s2a sn s2c)).run Tryd.prog w' = .ok (.string SC) w') (fun w' hw' => by
    obtain ⟨u0, u1, u2, u3, u4, u5, u6, u7, u8, u9, u10, u11, u12, _⟩ := hw'
    exact ⟨u0, u1, u2, u3, u4, u5, u6, u7, u8, u9, u10, u11, u12⟩) ?_
  have S0 := S1
  clear S1
  have kG := garbage_ok Hx.out h12
  clear h11
  refine GoE.take (i := 16) (v := ?_) rfl (by decide) (by kernel_rfl) (by kernel_rfl) (by kernel_rfl) (by kernel_rfl) (fun _ _ _ h => h) (by rfl) ?_ (by assumption) ?_
  rotate_left
  · intro w hSw; (try dsimp only at hSw); go_simp; try (with_reducible rfl)
  try simp only [Act.put, List.setIfInBounds_toArray, List.set_cons_zero, List.set_cons_succ]
  refine GoE.take (i := 17) (v := ?_) rfl (by decide) (by kernel_rfl) (by kernel_rfl) (by kernel_rfl) (by kernel_rfl) (fun _ _ _ h => h) (by rfl) ?_ (by assumption) ?_
  rotate_left
  · intro w hSw; (try dsimp only at hSw); go_simp; try (with_reducible rfl)
  try simp only [Act.put, List.setIfInBounds_toArray, List.set_cons_zero, List.set_cons_succ]
  refine GoE.take (i := 18) (v := ?_) rfl (by decide) (by kernel_rfl) (by kernel_rfl) (by kernel_rfl) (by kernel_rfl) (fun _ _ _ h => h) (by rfl) ?_ (by assumption) ?_
  rotate_left
  · intro w hSw; (try dsimp only at hSw); go_simp; try (with_reducible rfl)
  try simp only [Act.put, List.setIfInBounds_toArray, List.set_cons_zero, List.set_cons_succ]
  refine GoE.take (i := 19) (v := ?_) rfl (by decide) (by kernel_rfl) (by kernel_rfl) (by kernel_rfl) (by kernel_rfl) (fun _ _ _ h => h) (by rfl) ?_ (by assumption) ?_
  rotate_left
  · intro w hSw; (try dsimp only at hSw); go_simp; try (with_reducible rfl)
  try simp only [Act.put, List.setIfInBounds_toArray, List.set_cons_zero, List.set_cons_succ]
  refine GoE.take (i := 20) (v := ?_) rfl (by decide) (by kernel_rfl) (by kernel_rfl) (by kernel_rfl) (by kernel_rfl) (fun _ _ _ h => h) (by rfl) ?_ (by assumption) ?_
  rotate_left
  · intro w hSw; (try dsimp only at hSw); go_simp; try (with_reducible rfl)
  try simp only [Act.put, List.setIfInBounds_toArray, List.set_cons_zero, List.set_cons_succ]
  refine GoE.take (i := 23) (v := ?_) rfl (by decide) (by kernel_rfl) (by kernel_rfl) (by kernel_rfl) (by kernel_rfl) (fun _ _ _ h => h) (by rfl) ?_ (by assumption) ?_
  rotate_left
  · intro w hSw; (try dsimp only at hSw); go_simp; try (with_reducible rfl)
  try simp only [Act.put, List.setIfInBounds_toArray, List.set_cons_zero, List.set_cons_succ]
  refine GoE.one (i := 21) rfl (by kernel_rfl) (fun K hK => ?_)
  go_simp
  go_at_call 27
  (with_reducible refine kG.mono ?_)
  rintro ev w13 ⟨q, rfl, h13⟩
  obtain ⟨z1a, z1c, rfl, _, _⟩ := Sl.valn h13 (m := zn) (by rw [bvs_len]; exact Hz.out)
  go_wp2_with fail
  have S1 : w13.cell? ⟨c4, 0, none⟩ = some (.int .u32 (c.xid : Int)) ∧ w13.cell? ⟨c4, 1, none⟩ = some (.int .u32 (c.prog : Int)) ∧ w13.cell? ⟨c4, 2, none⟩ = some (.int .u32 (c.vers : Int)) ∧ w13.cell? ⟨c4, 3, none⟩ = some (.int .u32 (c.proc : Int)) ∧ w13.cell? ⟨c4, 4, none⟩ = some (.int .u32 (c.uid : Int)) ∧ w13.cell? ⟨c4, 5, none⟩ = some (.int .u32 (c.gid : Int)) ∧ w13.cell? ⟨c4, 6, none⟩ = some (.slice ga gn gc) ∧ w13.cell? ⟨c4, 7, none⟩ = some (.slice ba bn bc) ∧ (convert 27 9 (.slice qa dn qc)).run Tryd.prog w13 = .ok (.string SA) w13 ∧ (convert 27 9 (.slice pa dn pc)).run Tryd.prog w13 = .ok (.string SA) w13 ∧ (convert 27 9 (.slice o1a on o1c)).run Tryd.prog w13 = .ok (.string SB) w13 ∧ (convert 27 9 (.slice o2a on o2c)).run Tryd.prog w13 = .ok (.string SB) w13 ∧ (convert 27 9 (.slice s1a sn s1c)).run Tryd.prog w13 = .ok (.string SC) w13 ∧ (convert 27 9 (.slice s2a sn s2c)).run Tryd.prog w13 = .ok (.string SC) w13 ∧ (convert 27 9 (.slice z1a zn z1c)).run Tryd.prog w13 = .ok (.string SD) w13 := ⟨(Hc8.out _ _ (h13.pull 5)).1, (Hc8.out _ _ (h13.pull 5)).2.1, (Hc8.out _ _ (h13.pull 5)).2.2.1, (Hc8.out _ _ (h13.pull 5)).2.2.2.1, (Hc8.out _ _ (h13.pull 5)).2.2.2.2.1, (Hc8.out _ _ (h13.pull 5)).2.2.2.2.2.1, (Hc8.out _ _ (h13.pull 5)).2.2.2.2.2.2.1, (Hc8.out _ _ (h13.pull 5)).2.2.2.2.2.2.2, (by have := RdB.conv (SlB.rd (h13.pull 6)); rw [hSA] at this; exact this), (by have := RdB.conv (SlB.rd (h13.pull 7)); rw [hSA] at this; exact this), (by have := RdB.conv (SlB.rd (h13.pull 4)); rw [hSB] at this; exact this), (by have := RdB.conv (SlB.rd (h13.pull 3)); rw [hSB] at this; exact this), (by have := RdB.conv (SlB.rd (h13.pull 2)); rw [hSC] at this; exact this), (by have := RdB.conv (SlB.rd (h13.pull 1)); rw [hSC] at this; exact this), (by have := RdB.conv (SlB.rd (h13.pull 0)); rw [hSD] at this; exact this)⟩
  have S2 : w13.cell? ⟨c4, 0, none⟩ = some (.int .u32 (c.xid : Int)) ∧ w13.cell? ⟨c4, 1, none⟩ = some (.int .u32 (c.prog : Int)) ∧ w13.cell? ⟨c4, 2, none⟩ = some (.int .u32 (c.vers : Int)) ∧ w13.cell? ⟨c4, 3, none⟩ = some (.int .u32 (c.proc : Int)) ∧ w13.cell? ⟨c4, 4, none⟩ = some (.int .u32 (c.uid : Int)) ∧ w13.cell? ⟨c4, 5, none⟩ = some (.int .u32 (c.gid : Int)) ∧ w13.cell? ⟨c4, 6, none⟩ = some (.slice ga gn gc) ∧ w13.cell? ⟨c4, 7, none⟩ = some (.slice ba bn bc) ∧ (convert 27 9 (.slice qa dn qc)).run Tryd.prog w13 = .ok (.string SA) w13 ∧ (convert 27 9 (.slice pa dn pc)).run Tryd.prog w13 = .ok (.string SA) w13 ∧ (convert 27 9 (.slice o1a on o1c)).run Tryd.prog w13 = .ok (.string SB) w13 ∧ (convert 27 9 (.slice o2a on o2c)).run Tryd.prog w13 = .ok (.string SB) w13 ∧ (convert 27 9 (.slice s1a sn s1c)).run Tryd.prog w13 = .ok (.string SC) w13 ∧ (convert 27 9 (.slice s2a sn s2c)).run Tryd.prog w13 = .ok (.string SC) w13 := by
    obtain ⟨u0, u1, u2, u3, u4, u5, u6, u7, u8, u9, u10, u11, u12, u13, _⟩ := S1
    exact ⟨u0, u1, u2, u3, u4, u5, u6, u7, u8, u9, u10, u11, u12, u13⟩
  refine hK.out _ _ (fun _ => S2) ?_
  clear hK K S0 S2 kG
  try simp only [Act.put, List.setIfInBounds_toArray, List.set_cons_zero, List.set_cons_succ]
  refine GoE.more (fun w' => w'.cell? ⟨c4, 0, none⟩ = some (.int .u32 (c.xid : Int)) ∧ w'.cell? ⟨c4, 1, none⟩ = some (.int .u32 (c.prog : Int)) ∧ w'.cell? ⟨c4, 2, none⟩ = some (.int .u32 (c.vers : Int)) ∧ w'.cell? ⟨c4, 3, none⟩ = some (.int .u32 (c.proc : Int)) ∧ w'.cell? ⟨c4, 4, none⟩ = some (.int .u32 (c.uid : Int)) ∧ w'.cell? ⟨c4, 5, none⟩ = some (.int .u32 (c.gid : Int)) ∧ w'.cell? ⟨c4, 6, none⟩ = some (.slice ga gn gc) ∧ w'.cell? ⟨c4, 7, none⟩ = some (.slice ba bn bc) ∧ (convert 27 9 (.slice qa dn qc)).run Tryd.prog w' = .ok (.string SA) w' ∧ (convert 27 9 (.slice pa dn pc)).run Tryd.prog w' = .ok (.string SA) w' ∧ (convert 27 9 (.slice o1a on o1c)).run Tryd.prog w' = .ok (.string SB) w' ∧ (convert 27 9 (.slice o2a on o2c)).run Tryd.prog w' = .ok (.string SB) w' ∧ (convert 27 9 (.slice s1a sn s1c)).run Tryd.prog w' = .ok (.string SC) w' ∧ (convert 27 9 (.slice s2a sn s2c)).run Tryd.prog w' = .ok (.string SC) w' ∧ (convert 27 9 (.slice z1a zn z1c)).run Tryd.prog w' = .ok (.string SD) w') (fun w' hw' => by
    obtain ⟨u0, u1, u2, u3, u4, u5, u6, u7, u8, u9, u10, u11, u12, u13, _⟩ := hw'
    exact ⟨u0, u1, u2, u3, u4, u5, u6, u7, u8, u9, u10, u11, u12, u13⟩) ?_
  have S0 := S1
  clear S1
  have kH := refgarbage_ok Hx.out h13
  clear h12
  refine GoE.take (i := 22) (v := ?_) rfl (by decide) (by kernel_rfl) (by kernel_rfl) (by kernel_rfl) (by kernel_rfl) (fun _ _ _ h => h) (by rfl) ?_ (by assumption) ?_
  rotate_left
  · intro w hSw; (try dsimp only at hSw); go_simp; try (with_reducible rfl)
  try simp only [Act.put, List.setIfInBounds_toArray, List.set_cons_zero, List.set_cons_succ]
  refine GoE.one (i := 24) rfl (by kernel_rfl) (fun K hK => ?_)
  go_simp
  go_at_call 28
  (with_reducible refine kH.mono ?_)
  rintro ev w14 ⟨q, rfl, h14⟩
  obtain ⟨z2a, z2c, rfl, _, _⟩ := Sl.valn h14 (m := zn) (by rw [bvs_len]; exact Hz.out)
  go_wp2_with fail
  have S1 : w14.cell? ⟨c4, 0, none⟩ = some (.int .u32 (c.xid : Int)) ∧ w14.cell? ⟨c4, 1, none⟩ = some (.int .u32 (c.prog : Int)) ∧ w14.cell? ⟨c4, 2, none⟩ = some (.int .u32 (c.vers : Int)) ∧ w14.cell? ⟨c4, 3, none⟩ = some (.int .u32 (c.proc : Int)) ∧ w14.cell? ⟨c4, 4, none⟩ = some (.int .u32 (c.uid : Int)) ∧ w14.cell? ⟨c4, 5, none⟩ = some (.int .u32 (c.gid : Int)) ∧ w14.cell? ⟨c4, 6, none⟩ = some (.slice ga gn gc) ∧ w14.cell? ⟨c4, 7, none⟩ = some (.slice ba bn bc) ∧ (convert 27 9 (.slice qa dn qc)).run Tryd.prog w14 = .ok (.string SA) w14 ∧ (convert 27 9 (.slice pa dn pc)).run Tryd.prog w14 = .ok (.string SA) w14 ∧ (convert 27 9 (.slice o1a on o1c)).run Tryd.prog w14 = .ok (.string SB) w14 ∧ (convert 27 9 (.slice o2a on o2c)).run Tryd.prog w14 = .ok (.string SB) w14 ∧ (convert 27 9 (.slice s1a sn s1c)).run Tryd.prog w14 = .ok (.string SC) w14 ∧ (convert 27 9 (.slice s2a sn s2c)).run Tryd.prog w14 = .ok (.string SC) w14 ∧ (convert 27 9 (.slice z1a zn z1c)).run Tryd.prog w14 = .ok (.string SD) w14 ∧ (convert 27 9 (.slice z2a zn z2c)).run Tryd.prog w14 = .ok (.string SD) w14 := ⟨(Hc8.out _ _ (h14.pull 6)).1, (Hc8.out _ _ (h14.pull 6)).2.1, (Hc8.out _ _ (h14.pull 6)).2.2.1, (Hc8.out _ _ (h14.pull 6)).2.2.2.1, (Hc8.out _ _ (h14.pull 6)).2.2.2.2.1, (Hc8.out _ _ (h14.pull 6)).2.2.2.2.2.1, (Hc8.out _ _ (h14.pull 6)).2.2.2.2.2.2.1, (Hc8.out _ _ (h14.pull 6)).2.2.2.2.2.2.2, (by have := RdB.conv (SlB.rd (h14.pull 7)); rw [hSA] at this; exact this), (by have := RdB.conv (SlB.rd (h14.pull 8)); rw [hSA] at this; exact this), (by have := RdB.conv (SlB.rd (h14.pull 5)); rw [hSB] at this; exact this), (by have := RdB.conv (SlB.rd (h14.pull 4)); rw [hSB] at this; exact this), (by have := RdB.conv (SlB.rd (h14.pull 3)); rw [hSC] at this; exact this), (by have := RdB.conv (SlB.rd (h14.pull 2)); rw [hSC] at this; exact this), (by have := RdB.conv (SlB.rd (h14.pull 1)); rw [hSD] at this; exact this), (by have := RdB.conv (SlB.rd (h14.pull 0)); rw [hSD] at this; exact this)⟩
  have S2 : w14.cell? ⟨c4, 0, none⟩ = some (.int .u32 (c.xid : Int)) ∧ w14.cell? ⟨c4, 1, none⟩ = some (.int .u32 (c.prog : Int)) ∧ w14.cell? ⟨c4, 2, none⟩ = some (.int .u32 (c.vers : Int)) ∧ w14.cell? ⟨c4, 3, none⟩ = some (.int .u32 (c.proc : Int)) ∧ w14.cell? ⟨c4, 4, none⟩ = some (.int .u32 (c.uid : Int)) ∧ w14.cell? ⟨c4, 5, none⟩ = some (.int .u32 (c.gid : Int)) ∧ w14.cell? ⟨c4, 6, none⟩ = some (.slice ga gn gc) ∧ w14.cell? ⟨c4, 7, none⟩ = some (.slice ba bn bc) ∧ (convert 27 9 (.slice qa dn qc)).run Tryd.prog w14 = .ok (.string SA) w14 ∧ (convert 27 9 (.slice pa dn pc)).run Tryd.prog w14 = .ok (.string SA) w14 ∧ (convert 27 9 (.slice o1a on o1c)).run Tryd.prog w14 = .ok (.string SB) w14 ∧ (convert 27 9 (.slice o2a on o2c)).run Tryd.prog w14 = .ok (.string SB) w14 ∧ (convert 27 9 (.slice s1a sn s1c)).run Tryd.prog w14 = .ok (.string SC) w14 ∧ (convert 27 9 (.slice s2a sn s2c)).run Tryd.prog w14 = .ok (.string SC) w14 ∧ (convert 27 9 (.slice z1a zn z1c)).run Tryd.prog w14 = .ok (.string SD) w14 := by
    obtain ⟨u0, u1, u2, u3, u4, u5, u6, u7, u8, u9, u10, u11, u12, u13, u14, _⟩ := S1
    exact ⟨u0, u1, u2, u3, u4, u5, u6, u7, u8, u9, u10, u11, u12, u13, u14⟩
  refine hK.out _ _ (fun _ => S2) ?_
  clear hK K S0 S2 kH
  try simp only [Act.put, List.setIfInBounds_toArray, List.set_cons_zero, List.set_cons_succ]
  refine GoE.more (fun w' => w'.cell? ⟨c4, 0, none⟩ = some (.int .u32 (c.xid : Int)) ∧ w'.cell? ⟨c4, 1, none⟩ = some (.int .u32 (c.prog : Int)) ∧ w'.cell? ⟨c4, 2, none⟩ = some (.int .u32 (c.vers : Int)) ∧ w'.cell? ⟨c4, 3, none⟩ = some (.int .u32 (c.proc : Int)) ∧ w'.cell? ⟨c4, 4, none⟩ = some (.int .u32 (c.uid : Int)) ∧ w'.cell? ⟨c4, 5, none⟩ = some (.int .u32 (c.gid : Int)) ∧ w'.cell? ⟨c4, 6, none⟩ = some (.slice ga gn gc) ∧ w'.cell? ⟨c4, 7, none⟩ = some (.slice ba bn bc) ∧ (convert 27 9 (.slice qa dn qc)).run Tryd.prog w' = .ok (.string SA) w' ∧ (convert 27 9 (.slice pa dn pc)).run Tryd.prog w' = .ok (.string SA) w' ∧ (convert 27 9 (.slice o1a on o1c)).run Tryd.prog w' = .ok (.string SB) w' ∧ (convert 27 9 (.slice o2a on o2c)).run Tryd.prog w' = .ok (.string SB) w' ∧ (convert 27 9 (.slice s1a sn s1c)).run Tryd.prog w' = .ok (.string SC) w' ∧ (convert 27 9 (.slice s2a sn s2c)).run Tryd.prog w' = .ok (.string SC) w' ∧ (convert 27 9 (.slice z1a zn z1c)).run Tryd.prog w' = .ok (.string SD) w' ∧ (convert 27 9 (.slice z2a zn z2c)).run Tryd.prog w' = .ok (.string SD) w') (fun w' hw' => by
    obtain ⟨u0, u1, u2, u3, u4, u5, u6, u7, u8, u9, u10, u11, u12, u13, u14, _⟩ := hw'
    exact ⟨u0, u1, u2, u3, u4, u5, u6, u7, u8, u9, u10, u11, u12, u13, u14⟩) ?_
  have S0 := S1
  clear S1
  clear h13
  refine GoE.take (i := 25) (v := ?_) rfl (by decide) (by kernel_rfl) (by kernel_rfl) (by kernel_rfl) (by kernel_rfl) (fun _ _ _ h => h) (by rfl) ?_ (by assumption) ?_
  rotate_left
  · intro w hSw; (try dsimp only at hSw); go_simp; try (with_reducible rfl)
  try simp only [Act.put, List.setIfInBounds_toArray, List.set_cons_zero, List.set_cons_succ]
  refine GoE.take (i := 26) (v := ?_) rfl (by decide) (by kernel_rfl) (by kernel_rfl) (by kernel_rfl) (by kernel_rfl) (fun _ _ _ h => h) (by rfl) ?_ (by assumption) ?_
  rotate_left
  · intro w hSw; (try dsimp only at hSw); go_simp; try (with_reducible rfl)
  try simp only [Act.put, List.setIfInBounds_toArray, List.set_cons_zero, List.set_cons_succ]
  refine GoE.take (i := 27) (v := ?_) rfl (by decide) (by kernel_rfl) (by kernel_rfl) (by kernel_rfl) (by kernel_rfl) (fun _ _ _ h => h) (by rfl) ?_ (by assumption) ?_
  rotate_left
  · intro w hSw; (try dsimp only at hSw); go_simp; try (with_reducible rfl)
  try simp only [Act.put, List.setIfInBounds_toArray, List.set_cons_zero, List.set_cons_succ]
  refine GoE.take (i := 28) (v := ?_) rfl (by decide) (by kernel_rfl) (by kernel_rfl) (by kernel_rfl) (by kernel_rfl) (fun _ _ _ h => h) (by rfl) ?_ (by assumption) ?_
  rotate_left
  · intro w hSw; (try dsimp only at hSw); go_simp; try (with_reducible rfl)
  try simp only [Act.put, List.setIfInBounds_toArray, List.set_cons_zero, List.set_cons_succ]
  refine GoE.take (i := 29) (v := ?_) rfl (by decide) (by kernel_rfl) (by kernel_rfl) (by kernel_rfl) (by kernel_rfl) (fun _ _ _ h => h) (by rfl) ?_ (by assumption) ?_
  rotate_left
  · intro w hSw; (try dsimp only at hSw); go_simp; try (with_reducible rfl)
  try simp only [Act.put, List.setIfInBounds_toArray, List.set_cons_zero, List.set_cons_succ]
  refine GoE.take (i := 30) (v := ?_) rfl (by decide) (by kernel_rfl) (by kernel_rfl) (by kernel_rfl) (by kernel_rfl) (fun _ _ _ h => h) (by rfl) ?_ (by assumption) ?_
  rotate_left
  · intro w hSw; (try dsimp only at hSw); go_simp; try (with_reducible rfl)
  try simp only [Act.put, List.setIfInBounds_toArray, List.set_cons_zero, List.set_cons_succ]
  refine GoE.take (i := 31) (v := ?_) rfl (by decide) (by kernel_rfl) (by kernel_rfl) (by kernel_rfl) (by kernel_rfl) (fun _ _ _ h => h) (by rfl) ?_ (by assumption) ?_
  rotate_left
  · intro w hSw; (try dsimp only at hSw); go_simp; try (with_reducible rfl)
  try simp only [Act.put, List.setIfInBounds_toArray, List.set_cons_zero, List.set_cons_succ]
  refine GoE.take (i := 32) (v := ?_) rfl (by decide) (by kernel_rfl) (by kernel_rfl) (by kernel_rfl) (by kernel_rfl) (fun _ _ _ h => h) (by rfl) ?_ (by assumption) ?_
  rotate_left
  · intro w hSw; (try dsimp only at hSw); go_simp; try (with_reducible rfl)
  try simp only [Act.put, List.setIfInBounds_toArray, List.set_cons_zero, List.set_cons_succ]
  refine GoE.take (i := 33) (v := ?_) rfl (by decide) (by kernel_rfl) (by kernel_rfl) (by kernel_rfl) (by kernel_rfl) (fun _ _ _ h => h) (by rfl) ?_ (by assumption) ?_
  rotate_left
  · intro w hSw; (try dsimp only at hSw); go_simp; try (with_reducible rfl)
  try simp only [Act.put, List.setIfInBounds_toArray, List.set_cons_zero, List.set_cons_succ]
  refine GoE.take (i := 34) (v := ?_) rfl (by decide) (by kernel_rfl) (by kernel_rfl) (by kernel_rfl) (by kernel_rfl) (fun _ _ _ h => h) (by rfl) ?_ (by assumption) ?_
  rotate_left
  · intro w hSw; (try dsimp only at hSw); go_simp; try (with_reducible rfl)
  try simp only [Act.put, List.setIfInBounds_toArray, List.set_cons_zero, List.set_cons_succ]
  refine GoE.take (i := 35) (v := ?_) rfl (by decide) (by kernel_rfl) (by kernel_rfl) (by kernel_rfl) (by kernel_rfl) (fun _ _ _ h => h) (by rfl) ?_ (by assumption) ?_
  rotate_left
  · intro w hSw; (try dsimp only at hSw); go_simp; try (with_reducible rfl)
  try simp only [Act.put, List.setIfInBounds_toArray, List.set_cons_zero, List.set_cons_succ]
  refine GoE.take (i := 36) (v := ?_) rfl (by decide) (by kernel_rfl) (by kernel_rfl) (by kernel_rfl) (by kernel_rfl) (fun _ _ _ h => h) (by rfl) ?_ (by assumption) ?_
  rotate_left
  · intro w hSw; (try dsimp only at hSw); go_simp; try (with_reducible rfl)
  try simp only [Act.put, List.setIfInBounds_toArray, List.set_cons_zero, List.set_cons_succ]
  refine GoE.take (i := 37) (v := ?_) rfl (by decide) (by kernel_rfl) (by kernel_rfl) (by kernel_rfl) (by kernel_rfl) (fun _ _ _ h => h) (by rfl) ?_ (by assumption) ?_
  rotate_left
  · intro w hSw; (try dsimp only at hSw); go_simp; try (with_reducible rfl)
  try simp only [Act.put, List.setIfInBounds_toArray, List.set_cons_zero, List.set_cons_succ]
  refine GoE.take (i := 38) (v := ?_) rfl (by decide) (by kernel_rfl) (by kernel_rfl) (by kernel_rfl) (by kernel_rfl) (fun _ _ _ h => h) (by rfl) ?_ (by assumption) ?_
  rotate_left
  · intro w hSw; (try dsimp only at hSw); go_simp; try (with_reducible rfl)
  try simp only [Act.put, List.setIfInBounds_toArray, List.set_cons_zero, List.set_cons_succ]
  refine GoE.take (i := 39) (v := ?_) rfl (by decide) (by kernel_rfl) (by kernel_rfl) (by kernel_rfl) (by kernel_rfl) (fun _ _ _ h => h) (by rfl) ?_ (by assumption) ?_
  rotate_left
  · intro w hSw; (try dsimp only at hSw); go_simp; try (with_reducible rfl)
  try simp only [Act.put, List.setIfInBounds_toArray, List.set_cons_zero, List.set_cons_succ]
  refine GoE.take (i := 40) (v := ?_) rfl (by decide) (by kernel_rfl) (by kernel_rfl) (by kernel_rfl) (by kernel_rfl) (fun _ _ _ h => h) (by rfl) ?_ (by assumption) ?_
  rotate_left
  · intro w hSw; (try dsimp only at hSw); go_simp; try (with_reducible rfl)
  try simp only [Act.put, List.setIfInBounds_toArray, List.set_cons_zero, List.set_cons_succ]
  refine GoE.take (i := 41) (v := ?_) rfl (by decide) (by kernel_rfl) (by kernel_rfl) (by kernel_rfl) (by kernel_rfl) (fun _ _ _ h => h) (by rfl) ?_ (by assumption) ?_
  rotate_left
  · intro w hSw; (try dsimp only at hSw); go_simp; try (with_reducible rfl)
  try simp only [Act.put, List.setIfInBounds_toArray, List.set_cons_zero, List.set_cons_succ]
  refine GoE.take (i := 42) (v := ?_) rfl (by decide) (by kernel_rfl) (by kernel_rfl) (by kernel_rfl) (by kernel_rfl) (fun _ _ _ h => h) (by rfl) ?_ (by assumption) ?_
  rotate_left
  · intro w hSw; (try dsimp only at hSw); go_simp; try (with_reducible rfl)
  try simp only [Act.put, List.setIfInBounds_toArray, List.set_cons_zero, List.set_cons_succ]
  refine GoE.take (i := 43) (v := ?_) rfl (by decide) (by kernel_rfl) (by kernel_rfl) (by kernel_rfl) (by kernel_rfl) (fun _ _ _ h => h) (by rfl) ?_ (by assumption) ?_
  rotate_left
  · intro w hSw; (try dsimp only at hSw); go_simp; try (with_reducible rfl)
  try simp only [Act.put, List.setIfInBounds_toArray, List.set_cons_zero, List.set_cons_succ]
  refine GoE.take (i := 44) (v := ?_) rfl (by decide) (by kernel_rfl) (by kernel_rfl) (by kernel_rfl) (by kernel_rfl) (fun _ _ _ h => h) (by rfl) ?_ (by assumption) ?_
  rotate_left
  · intro w hSw; (try dsimp only at hSw); go_simp; try (with_reducible rfl)
  try simp only [Act.put, List.setIfInBounds_toArray, List.set_cons_zero, List.set_cons_succ]
  refine GoE.one (i := 45) rfl (by kernel_rfl) (fun K hK => ?_)
  go_simp
  refine hK.out _ _ (fun h => absurd rfl h) ?_
  clear hK K
  try simp only [Act.put, List.setIfInBounds_toArray, List.set_cons_zero, List.set_cons_succ]
  refine GoE.done (by kernel_rfl) ?_
  go_wp2_with fail
  go_ret
  exact Ret.mk ⟨rfl, h14.tail.tail.tail.tail.tail.tail.tail.tail.tail⟩
end
end Go.Proofs.YtpecmkkcepnpeaaDoor
