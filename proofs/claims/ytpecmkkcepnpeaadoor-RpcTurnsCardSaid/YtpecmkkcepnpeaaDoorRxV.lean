/- the document's rpc: Write, Success, Garbage. No condition beside the sizes. -/
import Derived.Test.YtpecmkkcepnpeaaDoorRxW
import Derived.Test.YtpecmkkcepnpeaaDoorRxC
namespace Go.Proofs.YtpecmkkcepnpeaaDoor
set_option linter.unusedVariables false
set_option linter.unusedSimpArgs false
open Go.RowKit
section
variable {w : World} {L : List HP}
theorem SrcOk.ofRdW {w : World} {v : Value} {l : List Nat} (h : RdW v l w) : SrcOk Tryd.prog 23 1 w v l.length (l.map u32v) := by
  refine ⟨by simp, ?_⟩
  rcases h with ⟨rfl, rfl⟩ | ⟨A, c, rfl, h1, h2, h3⟩
  · exact .inl ⟨rfl, rfl, 22, by kernel_rfl⟩
  · refine .inr (.inl ⟨_, _, rfl, ⟨22, by kernel_rfl⟩, fun j y hy => ?_⟩)
    have hj : j < l.length := by have := (List.getElem?_eq_some_iff.1 hy).1; simpa using this
    obtain ⟨b, off, rfl, h4⟩ := h3 (by omega)
    rw [addr_add, h4 j hj, ← hy]
    rw [List.getElem?_map, List.getElem?_eq_getElem hj]
    simp [List.getD, hj]
theorem refw0_ok {wb : Nat} {bs : List UInt8} (hb : bs.length ≤ 100000000) (h : SatL w (WrQ wb bs :: L)) : Calls Tryd.prog 56 #[.pointer (some ⟨wb, 0, none⟩), .int .u32 0] w (Ret fun v w' => SatL w' (WrQ wb (bs ++ hib 4 0) :: L)) := refwu32_ok (x := 0) (by omega) hb h
theorem refgarbage_ok {xid : Nat} (hx : xid < 4294967296) (h : SatL w L) :
    Calls Tryd.prog 28 #[.int .u32 (xid : Int)] w (Ret fun q w' => SatL w' (SlB 5 q (be4 [xid, 1, 0, 0, 0, 4]) :: L)) := by
  have hal := h.alloc (.cells #[.int .u32 (xid : Int), .int .u32 1, .int .u32 0, .int .u32 0, .int .u32 0, .int .u32 4] 22)
  have kr := row_ok (us := [xid, 1, 0, 0, 0, 4]) (by intro u hu; simp at hu; omega) (by simp) hal (fun w' h' => RdW.ofCl (n := 6) (c := 6) h' rfl rfl (by omega) (by omega))
  clear h hal
  go_enter Tryd.func28, Tryd.ntmps28
  go_wp2_with (first
    | (go_at_call 54; (with_reducible refine kr.mono ?_); rintro e w2 ⟨q, rfl, h2⟩))
  go_ret
  exact Ret.mk h2.swap.tail
theorem refsuccess_ok {xid : Nat} {v : Value} {b : List UInt8} (hx : xid < 4294967296) (hb : b.length ≤ 100000000) (h : SatL w L) (g : Gives L (RdV v b)) :
    Calls Tryd.prog 26 #[.int .u32 (xid : Int), v] w (Ret fun q w' => SatL w' (SlB 5 q (be4 [xid, 1, 0, 0, 0, 0] ++ b) :: L)) := by
  obtain ⟨a, c, rfl, g1, g2⟩ := (g w h).valn
  have Gg := hid g
  have hal := h.alloc (.cells #[.int .u32 (xid : Int), .int .u32 1, .int .u32 0, .int .u32 0, .int .u32 0, .int .u32 0] 22)
  have kr := row_ok (us := [xid, 1, 0, 0, 0, 0]) (by intro u hu; simp at hu; omega) (by simp) hal (fun w' h' => RdW.ofCl (n := 6) (c := 6) h' rfl rfl (by omega) (by omega))
  have hbb : (24 + b.length) * 1 ≤ 140737488355328 := by omega
  have h63 : 24 + b.length ≤ maxLen := by unfold maxLen; omega
  clear h g hal
  obtain ⟨HD, hHD⟩ : ∃ HD, be4 [xid, 1, 0, 0, 0, 0] = HD := ⟨_, rfl⟩
  have hHl : HD.length = 24 := by rw [← hHD, be4_len]; rfl
  rw [hHD] at kr
  have HHD := hid hHD
  have HHl := hid hHl
  clear hHD hHl
  go_enter Tryd.func26, Tryd.ntmps26
  go_wp2_with (first
    | (go_at_call 54; (with_reducible refine kr.mono ?_); rintro e w2 ⟨q, rfl, h2⟩; obtain ⟨va, vc, rfl, _, _⟩ := Sl.valn h2 (m := 24) (by rw [bvs_len]; exact HHl.out); have hK := Sl.toK (n := 24) h2 (by rw [bvs_len]; exact HHl.out); have hx := SrcOk.ofRdV (Gg.out w2 h2.tail.tail))
    | (at_builtin; refine wpList_append_sl rfl (.tmp 7) (.tmp 8) rfl elem_byte rfl hK rfl hx (bvs_one _) hbb h63 ?_; intro v3 w3 h3 _; have h4 := Sl.ofK h3; rw [← bvs_append] at h4))
  go_ret
  refine Ret.mk ?_
  rw [HHD.out]
  exact h4.swap.tail
set_option maxRecDepth 100000 in
set_option maxHeartbeats 4000000 in
theorem refwrite_ok {c : CallL} {gv bv : Value} (ok : c.ok) (hbl : c.body.length ≤ 10000000) (h : SatL w L) (gg : Gives L (RdW gv c.gids)) (gb : Gives L (RdV bv c.body)) :
    Calls Tryd.prog 23 #[.agg #[.int .u32 (c.xid : Int), .int .u32 (c.prog : Int), .int .u32 (c.vers : Int), .int .u32 (c.proc : Int), .int .u32 (c.uid : Int), .int .u32 (c.gid : Int), gv, bv]] w (Ret fun v w' => SatL w' (SlB 5 v c.bytes :: L)) := by
  obtain ⟨m, hm⟩ : ∃ m, m = (c.gids.take 16).length := ⟨_, rfl⟩
  have hm2 : m = min 16 c.gids.length := by rw [hm, List.length_take]
  have hm16 : m ≤ 16 := by omega
  have hml : m ≤ c.gids.length := by omega
  have htk : c.gids.take m = c.gids.take 16 := by
    rw [hm2]
    apply List.ext_getElem?
    intro i
    simp only [List.getElem?_take]
    by_cases h1 : i < 16
    · by_cases h2 : i < c.gids.length
      · rw [if_pos (by omega), if_pos h1]
      · rw [if_neg (by omega), if_pos h1, List.getElem?_eq_none (by omega)]
    · rw [if_neg (by omega), if_neg h1]
  obtain ⟨ga, gc, rfl, gl1, gl2⟩ := (gg w h).valn
  have hrd := fun (w' : World) (h : RdW (.slice ga c.gids.length gc) c.gids w') => RdW.pre h hml
  rw [htk] at hrd
  obtain ⟨ba, bc, rfl, bl1, bl2⟩ := (gb w h).valn
  have hmin : ∀ w : World, (Builtin.min_ #[3, 3] 3 #[.int .i64 16, .int .i64 (c.gids.length : Int)]).run Tryd.prog w = .ok (.int .i64 (m : Int)) w := fun w => by
    have e : (Builtin.min_ #[3, 3] 3 #[.int .i64 16, .int .i64 (c.gids.length : Int)]).run Tryd.prog w = .ok (.int .i64 (if (c.gids.length : Int) < 16 then (c.gids.length : Int) else 16)) w := rfl
    rw [e]
    congr 2
    split <;> omega
  have Gg := hid gg
  have Gb := hid gb
  have Hrd := hid hrd
  have Ok := hid ok
  have hwl : c.who.length = 20 + 4 * m := by rw [CallL.who_len, ← hm]
  have hpd := c.who_pad
  have hby : c.bytes = be4 [c.xid, 0, 2, c.prog, c.vers, c.proc, 1] ++ hib 4 c.who.length ++ c.who ++ be4 [0, 0] ++ c.body := rfl
  have hwho : c.who = be4 ([0, 0, c.uid, c.gid, m] ++ c.gids.take 16) := by rw [hm]; rfl
  have htl : (c.gids.take 16).length = m := hm.symm
  have hut : ∀ u ∈ c.gids.take 16, u < 4294967296 := fun u hu => ok.2 u (List.mem_of_mem_take hu)
  have Hut := hid hut
  clear ok gg gb hrd hut hm hm2 htk
  generalize c.bytes = BY at *
  generalize c.who = WH at *
  generalize c.gids.take 16 = TK at *
  generalize c.gids.length = gl at *
  have hu1 : ∀ u ∈ [0, 0, c.uid, c.gid, m] ++ TK, u < 4294967296 := by
    intro u hu
    rcases List.mem_append.1 hu with hu | hu
    · have := Ok.out.1; simp at hu; omega
    · exact Hut.out u hu
  have hu3 : ∀ u ∈ [c.xid, 0, 2, c.prog, c.vers, c.proc, 1], u < 4294967296 := by intro u hu; have := Ok.out.1; simp at hu; omega
  have Hu1 := hid hu1
  have Hu3 := hid hu3
  have Hwho := hid hwho
  have Hby := hid hby
  have Hpd := hid hpd
  have Hwl := hid hwl
  have Htl := hid htl
  have hwm : IntKind.u32.wrap (m : Int) = (m : Int) := u32_in _ (by omega)
  clear hu1 hu3 hwho hby hpd hwl htl
  have h0 := h.alloc (.cells #[.int .u32 (c.xid : Int), .int .u32 (c.prog : Int), .int .u32 (c.vers : Int), .int .u32 (c.proc : Int), .int .u32 (c.uid : Int), .int .u32 (c.gid : Int), .slice ga gl gc, .slice ba c.body.length bc] 64)
  have Hc := hid (fun (w' : World) (X : List HP) (h : SatL w' (cl w.heap.size 64 #[.int .u32 (c.xid : Int), .int .u32 (c.prog : Int), .int .u32 (c.vers : Int), .int .u32 (c.proc : Int), .int .u32 (c.uid : Int), .int .u32 (c.gid : Int), .slice ga gl gc, .slice ba c.body.length bc] :: X)) => (⟨h.cell (i := 0) rfl, h.cell (i := 1) rfl, h.cell (i := 2) rfl, h.cell (i := 3) rfl, h.cell (i := 4) rfl, h.cell (i := 5) rfl, h.cell (i := 6) rfl, h.cell (i := 7) rfl⟩ :
    w'.cell? ⟨w.heap.size, 0, none⟩ = some (.int .u32 (c.xid : Int)) ∧ w'.cell? ⟨w.heap.size, 1, none⟩ = some (.int .u32 (c.prog : Int)) ∧ w'.cell? ⟨w.heap.size, 2, none⟩ = some (.int .u32 (c.vers : Int)) ∧ w'.cell? ⟨w.heap.size, 3, none⟩ = some (.int .u32 (c.proc : Int)) ∧ w'.cell? ⟨w.heap.size, 4, none⟩ = some (.int .u32 (c.uid : Int)) ∧ w'.cell? ⟨w.heap.size, 5, none⟩ = some (.int .u32 (c.gid : Int)) ∧ w'.cell? ⟨w.heap.size, 6, none⟩ = some (.slice ga gl gc) ∧ w'.cell? ⟨w.heap.size, 7, none⟩ = some (.slice ba c.body.length bc)))
  obtain ⟨x0, x1, x2, x3, x4, x5, x6, x7⟩ := Hc.out _ _ h0
  have kr1 := row_ok Hu3.out (by simp) (SatL.allocN (n := w.heap.size + 1) h0 (.cells #[.int .u32 (c.xid : Int), .int .u32 0, .int .u32 2, .int .u32 (c.prog : Int), .int .u32 (c.vers : Int), .int .u32 (c.proc : Int), .int .u32 1] 22) (by simp)) (fun w' h' => RdW.ofCl (n := 7) (c := 7) h' rfl rfl (by omega) (by omega))
  obtain ⟨HD, hHD⟩ : ∃ HD, be4 [c.xid, 0, 2, c.prog, c.vers, c.proc, 1] = HD := ⟨_, rfl⟩
  have hHl : HD.length = 28 := by rw [← hHD, be4_len]; rfl
  rw [hHD] at kr1 Hby
  have HHl := hid hHl
  clear h h0 hHD hHl
  go_enter Tryd.func23, Tryd.ntmps23
  go_upto_region 2 with (first
    | (go_at_call 54; (with_reducible refine kr1.mono ?_); rintro e w1 ⟨q, rfl, h1⟩; obtain ⟨va, vc, rfl, _, _⟩ := Sl.valn h1 (m := 28) (by rw [bvs_len]; exact HHl.out); clear kr1 x0 x1 x2 x3 x4 x5 x6 x7))
  have h2 : SatL (w1.alloc (.cells #[.slice va 28 vc] 119)) (WrQ w1.heap.size HD :: _) := sat_WrQ.2 ⟨_, h1.alloc (.cells #[.slice va 28 vc] 119)⟩
  generalize w1.alloc (.cells #[.slice va 28 vc] 119) = w2 at h2 ⊢
  generalize w1.heap.size = wb at h2 ⊢
  replace h2 := h2.swap.tail
  obtain ⟨x0, x1, x2, x3, x4, x5, x6, x7⟩ := Hc.out _ _ (h2.pull 1)
  clear h1
  go_upto_region 4 with fail
  have h3 := Sl_u32s (l := [0, 0, c.uid, c.gid, m]) (cs := #[.int .u32 0, .int .u32 0, .int .u32 (c.uid : Int), .int .u32 (c.gid : Int), .int .u32 (m : Int)]) (nb := w2.heap.size) (n := 5) rfl rfl rfl (by omega) h2
  generalize w2.alloc (.cells #[.int .u32 0, .int .u32 0, .int .u32 (c.uid : Int), .int .u32 (c.gid : Int), .int .u32 (m : Int)] 22) = w3 at h3 ⊢
  generalize w2.heap.size = hb3 at h3 ⊢
  clear x0 x1 x2 x3 x4 x5 x6 x7 h2
  obtain ⟨x0, x1, x2, x3, x4, x5, x6, x7⟩ := Hc.out _ _ (h3.pull 2)
  have hK := Sl.toK (n := 5) h3 (by simp)
  have hx := SrcOk.ofRdW (Hrd.out w3 (Gg.out w3 h3.tail.tail.tail))
  rw [Htl.out] at hx
  have hbb : (5 + m) * 4 ≤ 140737488355328 := by omega
  have h63 : 5 + m ≤ maxLen := by unfold maxLen; omega
  clear h3
  go_upto_region 5 with (first
    | (at_builtin; refine wpList_append_sl rfl (.tmp 32) (.tmp 37) rfl elem_u32 rfl hK rfl hx (u32s_one _) hbb h63 ?_; intro v4 w4 h4 _; have h5 := Sl.ofK h4; rw [← List.map_append] at h5; obtain ⟨la, lc, rfl, _, _⟩ := Sl.valn h5 (m := 5 + m) (by rw [List.length_map, List.length_append, Htl.out]; rfl); have kr2 := row_ok Hu1.out (by rw [List.length_append, Htl.out]; simp; omega) h5 (fun w' h' => SlW.rd h'); rw [← Hwho.out] at kr2; clear h4 x0 x1 x2 x3 x4 x5 x6 x7))
  go_upto_region 8 with (first
    | (go_at_call 54; (with_reducible refine kr2.mono ?_); rintro e w5 ⟨q, rfl, h6⟩; obtain ⟨ra, rc, rfl, _, _⟩ := Sl.valn h6 (m := WH.length) (by rw [bvs_len]); have kb := refwbytes_ok (xs := WH) (by rw [HHl.out]; have := Hwl.out; omega) (h6.pull 2) (fun w' h' => RdB.v (SlB.rd h')); rw [Hpd.out, List.replicate_zero, List.append_nil] at kb; clear h6 kr2 hK hx)
    | (go_at_call 55; (with_reducible refine kb.mono ?_); rintro e w6 ⟨q, rfl, h7⟩; have k1 := refw0_ok (by simp only [List.length_append, hib_len, HHl.out]; have := Hwl.out; omega) h7; clear h7 kb)
    | (go_at_call 56; (with_reducible refine k1.mono ?_); rintro e w7 ⟨q, rfl, h7⟩; have k2 := refw0_ok (by simp only [List.length_append, hib_len, HHl.out]; have := Hwl.out; omega) h7; clear h7 k1)
    | (go_at_call 56; (with_reducible refine k2.mono ?_); rintro e w8 ⟨q, rfl, h7⟩; clear k2))
  have hF : HD ++ hib 4 WH.length ++ WH ++ hib 4 0 ++ hib 4 0 = HD ++ hib 4 WH.length ++ WH ++ be4 [0, 0] := by rw [List.append_assoc _ (hib 4 0) (hib 4 0)]; rfl
  rw [hF] at h7
  generalize hFF : HD ++ hib 4 WH.length ++ WH ++ be4 [0, 0] = F at h7 Hby
  have hFl : F.length ≤ 1000 := by rw [← hFF]; simp only [List.length_append, hib_len, HHl.out, be4_len, List.length_cons, List.length_nil]; have := Hwl.out; omega
  clear hF hFF
  obtain ⟨fn, hfn⟩ : ∃ fn, F.length = fn := ⟨_, rfl⟩
  have h8 := ((h7.pull 1).tail.pull 1).tail
  obtain ⟨fv, h9⟩ := sat_WrQ.1 h8
  obtain ⟨fa, fc, rfl, _, _⟩ := Sl.valn h9.tail (m := fn) (by rw [bvs_len]; exact hfn)
  have Hfn := hid hfn
  have hfl : fn ≤ 1000 := by omega
  clear h7 h8 hfn hFl
  refine GoE.start (fun w' => w'.cell? ⟨wb, 0, none⟩ = some (.slice fa fn fc) ∧ w'.cell? ⟨w.heap.size, 5 + 2, none⟩ = some (.slice ba c.body.length bc)) 7 8 rfl (by kernel_rfl) ?_
  have hd := sat_drew.2 h9
  generalize w8.drew = w9 at hd ⊢
  have S0 : w9.cell? ⟨wb, 0, none⟩ = some (.slice fa fn fc) ∧ w9.cell? ⟨w.heap.size, 5 + 2, none⟩ = some (.slice ba c.body.length bc) := ⟨SatL.cell (hd : SatL w9 (cl wb _ _ :: _)) (i := 0) rfl, (Hc.out _ _ (hd.pull 2)).2.2.2.2.2.2.2⟩
  have hx := SrcOk.ofRdV (Gb.out w9 hd.tail.tail.tail)
  have hK := Sl.toK (n := fn) hd.swap (by rw [bvs_len]; exact Hfn.out)
  have hbb : (fn + c.body.length) * 1 ≤ 140737488355328 := by omega
  have h63 : fn + c.body.length ≤ maxLen := by unfold maxLen; omega
  clear h9 hd
  refine GoE.take (i := 0) (v := ?_) rfl (by decide) (by kernel_rfl) (by kernel_rfl) (by kernel_rfl) (by kernel_rfl) (fun _ _ _ h => h) (by rfl) ?_ (by assumption) ?_
  rotate_left
  · intro w hSw; (try dsimp only at hSw); go_simp; try (with_reducible rfl)
  try simp only [Act.put, List.setIfInBounds_toArray, List.set_cons_zero, List.set_cons_succ]
  refine GoE.take (i := 1) (v := ?_) rfl (by decide) (by kernel_rfl) (by kernel_rfl) (by kernel_rfl) (by kernel_rfl) (fun _ _ _ h => h) (by rfl) ?_ (by assumption) ?_
  rotate_left
  · intro w hSw; (try dsimp only at hSw); go_simp; try (with_reducible rfl)
  try simp only [Act.put, List.setIfInBounds_toArray, List.set_cons_zero, List.set_cons_succ]
  refine GoE.take (i := 2) (v := ?_) rfl (by decide) (by kernel_rfl) (by kernel_rfl) (by kernel_rfl) (by kernel_rfl) (fun _ _ _ h => h) (by rfl) ?_ (by assumption) ?_
  rotate_left
  · intro w hSw; (try dsimp only at hSw); go_simp; try (with_reducible rfl)
  try simp only [Act.put, List.setIfInBounds_toArray, List.set_cons_zero, List.set_cons_succ]
  refine GoE.take (i := 3) (v := ?_) rfl (by decide) (by kernel_rfl) (by kernel_rfl) (by kernel_rfl) (by kernel_rfl) (fun _ _ _ h => h) (by rfl) ?_ (by assumption) ?_
  rotate_left
  · intro w hSw; (try dsimp only at hSw); go_simp; try (with_reducible rfl)
  try simp only [Act.put, List.setIfInBounds_toArray, List.set_cons_zero, List.set_cons_succ]
  refine GoE.take (i := 4) (v := ?_) rfl (by decide) (by kernel_rfl) (by kernel_rfl) (by kernel_rfl) (by kernel_rfl) (fun _ _ _ h => h) (by rfl) ?_ (by assumption) ?_
  rotate_left
  · intro w hSw; (try dsimp only at hSw); go_simp; try (with_reducible rfl)
  try simp only [Act.put, List.setIfInBounds_toArray, List.set_cons_zero, List.set_cons_succ]
  refine GoE.take (i := 5) (v := ?_) rfl (by decide) (by kernel_rfl) (by kernel_rfl) (by kernel_rfl) (by kernel_rfl) (fun _ _ _ h => h) (by rfl) ?_ (by assumption) ?_
  rotate_left
  · intro w hSw; (try dsimp only at hSw); go_simp; try (with_reducible rfl)
  try simp only [Act.put, List.setIfInBounds_toArray, List.set_cons_zero, List.set_cons_succ]
  refine GoE.one (i := 6) rfl (by kernel_rfl) (fun K hK2 => ?_)
  refine step_append_sl rfl (.tmp 50) (.tmp 52) rfl elem_byte rfl hK rfl hx (bvs_one _) hbb h63 ?_
  intro v14 w14 h14 _
  have h15 := Sl.ofK h14
  have S2 : w14.cell? ⟨wb, 0, none⟩ = some (.slice fa fn fc) ∧ w14.cell? ⟨w.heap.size, 5 + 2, none⟩ = some (.slice ba c.body.length bc) := ⟨SatL.cell (h15.pull 1 : SatL w14 (cl wb _ _ :: _)) (i := 0) rfl, (Hc.out _ _ (h15.pull 2)).2.2.2.2.2.2.2⟩
  refine hK2.out _ _ (fun _ => S2) ?_
  clear hK2 K
  try simp only [Act.put, List.setIfInBounds_toArray, List.set_cons_zero, List.set_cons_succ]
  refine GoE.one (i := 7) rfl (by kernel_rfl) (fun K hK => ?_)
  go_simp
  refine hK.out _ _ (fun h => absurd rfl h) ?_
  clear hK K
  try simp only [Act.put, List.setIfInBounds_toArray, List.set_cons_zero, List.set_cons_succ]
  refine GoE.done (by kernel_rfl) ?_
  go_wp2_with fail
  go_ret
  refine Ret.mk ?_
  rw [← bvs_append, ← Hby.out] at h15
  exact SatL.tail (SatL.tail (h15.bring [1, 2, 0]))
end
end Go.Proofs.YtpecmkkcepnpeaaDoor
