/- rpc: Write. No condition beside the sizes. -/
import Derived.Test.YtpecmkkcepnpeaaDoorRpcW
namespace Go.Proofs.YtpecmkkcepnpeaaDoor
set_option linter.unusedVariables false
set_option linter.unusedSimpArgs false
open Go.RowKit
section
variable {w : World} {L : List HP}
theorem RdW.pre {a : Option Addr} {n c m : Nat} {l : List Nat} {w : World} (h : RdW (.slice a n c) l w) (hm : m ≤ l.length) : RdW (.slice a m c) (l.take m) w := by
  rcases h with ⟨h0, rfl⟩ | ⟨A, c', h0, h1', h2', h3'⟩
  · cases h0
    obtain rfl : m = 0 := by simpa using hm
    exact .inl ⟨rfl, rfl⟩
  · cases h0
    have hl : (l.take m).length = m := by simp; omega
    refine .inr ⟨A, c, by rw [hl], by omega, h2', fun h0 => ?_⟩
    obtain ⟨b', off', rfl, h4'⟩ := h3' (by omega)
    refine ⟨b', off', rfl, fun i hi => ?_⟩
    rw [h4' i (by omega)]
    simp only [List.getD_eq_getElem?_getD, List.getElem?_take]
    rw [if_pos (by omega)]
set_option maxRecDepth 100000 in
set_option maxHeartbeats 2000000 in
theorem write_ok {c : CallL} {gv bv : Value} (ok : c.ok) (hbl : c.body.length ≤ 10000000) (h : SatL w L) (gg : Gives L (RdW gv c.gids)) (gb : Gives L (RdV bv c.body)) :
    Calls Tryd.prog 13 #[.agg #[.int .u32 (c.xid : Int), .int .u32 (c.prog : Int), .int .u32 (c.vers : Int), .int .u32 (c.proc : Int), .int .u32 (c.uid : Int), .int .u32 (c.gid : Int), gv, bv]] w (Ret fun v w' => SatL w' (SlB 5 v c.bytes :: L)) := by
  obtain ⟨m, hm⟩ : ∃ m, m = (c.gids.take 16).length := ⟨_, rfl⟩
  have hm2 : m = min 16 c.gids.length := by rw [hm, List.length_take]
  have hm16 : m ≤ 16 := by omega
  have hml : m ≤ c.gids.length := by omega
  have htk : c.gids.take m = c.gids.take 16 := by
    rw [hm2]
    apply List.ext_getElem?
    intro i
    simp only [List.getElem?_take]
    by_cases h1 : i < 16
    · by_cases h2 : i < c.gids.length
      · rw [if_pos (by omega), if_pos h1]
      · rw [if_neg (by omega), if_pos h1, List.getElem?_eq_none (by omega)]
    · rw [if_neg (by omega), if_neg h1]
  obtain ⟨ga, gc, rfl, gl1, gl2⟩ := (gg w h).valn
  have hrd := fun (w' : World) (h : RdW (.slice ga c.gids.length gc) c.gids w') => RdW.pre h hml
  rw [htk] at hrd
  obtain ⟨ba, bc, rfl, bl1, bl2⟩ := (gb w h).valn
  have hmin : ∀ w : World, (Builtin.min_ #[3, 3] 3 #[.int .i64 (c.gids.length : Int), .int .i64 16]).run Tryd.prog w = .ok (.int .i64 (m : Int)) w := fun w => by
    have e : (Builtin.min_ #[3, 3] 3 #[.int .i64 (c.gids.length : Int), .int .i64 16]).run Tryd.prog w = .ok (.int .i64 (if (16 : Int) < c.gids.length then 16 else (c.gids.length : Int))) w := rfl
    rw [e]
    congr 2
    split <;> omega
  have Gg := hid gg
  have Gb := hid gb
  have Hrd := hid hrd
  have Ok := hid ok
  have hwl : c.who.length = 20 + 4 * m := by rw [CallL.who_len, ← hm]
  have hpd := c.who_pad
  have hby : c.bytes = be4 [c.xid, 0, 2, c.prog, c.vers, c.proc, 1] ++ hib 4 c.who.length ++ c.who ++ be4 [0, 0] ++ c.body := rfl
  have hwho : c.who = be4 [0, 0, (c.uid : Nat), c.gid, m] ++ be4 (c.gids.take 16) := by rw [← be4_append, hm]; rfl
  have htl : (c.gids.take 16).length = m := hm.symm
  have hut : ∀ u ∈ c.gids.take 16, u < 4294967296 := fun u hu => ok.2 u (List.mem_of_mem_take hu)
  have Hut := hid hut
  clear ok gg gb hrd hut hm hm2 htk
  generalize c.bytes = BY at *
  generalize c.who = WH at *
  generalize c.gids.take 16 = TK at *
  generalize c.gids.length = gl at *
  have hu1 : ∀ u ∈ [0, 0, c.uid, c.gid, m], u < 4294967296 := by intro u hu; have := Ok.out.1; simp at hu; omega
  have hu3 : ∀ u ∈ [c.xid, 0, 2, c.prog, c.vers, c.proc, 1], u < 4294967296 := by intro u hu; have := Ok.out.1; simp at hu; omega
  have Hu1 := hid hu1
  have Hu3 := hid hu3
  have Hwho := hid hwho
  have Hby := hid hby
  have Hpd := hid hpd
  have Hwl := hid hwl
  have Htl := hid htl
  clear hu1 hu3 hwho hby hpd hwl htl
  have h0 := h.alloc (.cells #[.int .u32 (c.xid : Int), .int .u32 (c.prog : Int), .int .u32 (c.vers : Int), .int .u32 (c.proc : Int), .int .u32 (c.uid : Int), .int .u32 (c.gid : Int), .slice ga gl gc, .slice ba c.body.length bc] 30)
  have Hc := hid (fun (w' : World) (X : List HP) (h : SatL w' (cl w.heap.size 30 #[.int .u32 (c.xid : Int), .int .u32 (c.prog : Int), .int .u32 (c.vers : Int), .int .u32 (c.proc : Int), .int .u32 (c.uid : Int), .int .u32 (c.gid : Int), .slice ga gl gc, .slice ba c.body.length bc] :: X)) => (⟨h.cell (i := 0) rfl, h.cell (i := 1) rfl, h.cell (i := 2) rfl, h.cell (i := 3) rfl, h.cell (i := 4) rfl, h.cell (i := 5) rfl, h.cell (i := 6) rfl, h.cell (i := 7) rfl⟩ :
    w'.cell? ⟨w.heap.size, 0, none⟩ = some (.int .u32 (c.xid : Int)) ∧ w'.cell? ⟨w.heap.size, 1, none⟩ = some (.int .u32 (c.prog : Int)) ∧ w'.cell? ⟨w.heap.size, 2, none⟩ = some (.int .u32 (c.vers : Int)) ∧ w'.cell? ⟨w.heap.size, 3, none⟩ = some (.int .u32 (c.proc : Int)) ∧ w'.cell? ⟨w.heap.size, 4, none⟩ = some (.int .u32 (c.uid : Int)) ∧ w'.cell? ⟨w.heap.size, 5, none⟩ = some (.int .u32 (c.gid : Int)) ∧ w'.cell? ⟨w.heap.size, 6, none⟩ = some (.slice ga gl gc) ∧ w'.cell? ⟨w.heap.size, 7, none⟩ = some (.slice ba c.body.length bc)))
  have kn1 := newwriter_ok h0
  clear h h0
  go_enter Tryd.func13, Tryd.ntmps13
  go_upto_region 9 with (first
    | (go_at_call 33; (with_reducible refine kn1.mono ?_); rintro e w1 ⟨q, rfl, wb1, rfl, h1⟩; obtain ⟨x0, x1, x2, x3, x4, x5, x6, x7⟩ := Hc.out _ _ (h1.pull 1); have k1 := wu32_ok Hu1.out (by simp) (h1.alloc (.cells #[.int .u32 0, .int .u32 0, .int .u32 (c.uid : Int), .int .u32 (c.gid : Int), .int .u32 (m : Int)] 22)).swap (fun w' h' => RdW.ofCl (n := 5) (c := 5) h' rfl rfl (by omega) (by omega)); clear h1 kn1)
    | (go_at_call 34; (with_reducible refine k1.mono ?_); rintro e w2 ⟨q, rfl, h2⟩; have h3 := SatL.tail h2.swap; have k2 := wu32_ok Hut.out (by rw [Htl.out]; simp [be4_len]; omega) h3 (fun w' h' => Hrd.out w' (Gg.out w' h'.tail)); rw [List.nil_append, ← Hwho.out] at k2; clear h2 h3 k1 x0 x1 x2 x3 x4 x5 x6 x7)
    | (go_at_call 34; (with_reducible refine k2.mono ?_); rintro e w4 ⟨q, rfl, h4⟩; have kn2 := newwriter_ok h4; clear h4 k2)
    | (go_at_call 33; (with_reducible refine kn2.mono ?_); rintro e w5 ⟨q, rfl, wb2, rfl, h5⟩; obtain ⟨x0, x1, x2, x3, x4, x5, x6, x7⟩ := Hc.out _ _ (h5.pull 2); have k3 := wu32_ok Hu3.out (by simp) (h5.alloc (.cells #[.int .u32 (c.xid : Int), .int .u32 0, .int .u32 2, .int .u32 (c.prog : Int), .int .u32 (c.vers : Int), .int .u32 (c.proc : Int), .int .u32 1] 22)).swap (fun w' h' => RdW.ofCl (n := 7) (c := 7) h' rfl rfl (by omega) (by omega)); clear h5 kn2)
    | (go_at_call 34; (with_reducible refine k3.mono ?_); rintro e w6 ⟨q, rfl, h6⟩; have h7 := SatL.tail h6.swap; have kd1 := done_ok (h7.pull 1) (by have := Hwl.out; omega); clear h6 h7 k3 x0 x1 x2 x3 x4 x5 x6 x7)
    | (go_at_call 36; (with_reducible refine kd1.mono ?_); rintro e w8 ⟨q, rfl, h8⟩; obtain ⟨dn, hdn⟩ : ∃ dn, (bvs WH).length = dn := ⟨_, rfl⟩; obtain ⟨da, dc, rfl, _, _⟩ := Sl.valn h8 (m := dn) hdn; clear hdn; have k4 := wbytes_ok (xs := WH) (by have := Hwl.out; simp [be4_len]; omega) ((h8.alloc (.cells #[.slice da dn dc] 27)).bring [3, 0, 1, 2]) (fun w' h' => SatL.cell (h' : SatL w' (cl _ _ _ :: _)) (i := 0) rfl) (fun w' h' => SlB.rd h'.tail); rw [Hpd.out] at k4; clear h8 kd1)
    | (go_at_call 35; (with_reducible refine k4.mono ?_); rintro e w9 ⟨q, rfl, h9⟩; have h10 := SatL.tail (SatL.tail (SatL.tail (h9.bring [1, 2, 3, 0]))); have k5 := wu32_ok (us := [0, 0]) (by intro u hu; simp at hu; omega) (by have := Hwl.out; simp [be4_len, hib_len]; omega) (h10.alloc (.cells #[.int .u32 0, .int .u32 0] 22)).swap (fun w' h' => RdW.ofCl (n := 2) (c := 2) h' rfl rfl (by omega) (by omega)); clear h9 h10 k4)
    | (go_at_call 34; (with_reducible refine k5.mono ?_); rintro e w11 ⟨q, rfl, h11⟩; have h12 := SatL.tail h11.swap; clear h11 k5))
  have h12' := sat_drew.2 h12
  rw [List.nil_append, List.replicate_zero, List.append_nil] at h12'
  generalize hF : be4 [c.xid, 0, 2, c.prog, c.vers, c.proc, 1] ++ hib 4 WH.length ++ WH ++ be4 [0, 0] = F at *
  have hFl : F.length ≤ 1000 := by rw [← hF]; have := Hwl.out; simp [be4_len, hib_len]; omega
  have HF := hid hF
  have kd2 := done_ok h12' (by omega)
  have S0 := (Hc.out _ _ (h12'.pull 1)).2.2.2.2.2.2.2
  clear h12 h12' hF
  refine GoE.start (fun w' => w'.cell? ⟨w.heap.size, 7, none⟩ = some (.slice ba c.body.length bc)) 5 6 rfl (by kernel_rfl) ?_
  refine GoE.take (i := 0) (v := ?_) rfl (by decide) (by kernel_rfl) (by kernel_rfl) (by kernel_rfl) (by kernel_rfl) (fun _ _ _ h => h) (by rfl) ?_ (by assumption) ?_
  rotate_left
  · intro w hSw; (try dsimp only at hSw); go_simp; try (with_reducible rfl)
  try simp only [Act.put, List.setIfInBounds_toArray, List.set_cons_zero, List.set_cons_succ]
  refine GoE.take (i := 2) (v := ?_) rfl (by decide) (by kernel_rfl) (by kernel_rfl) (by kernel_rfl) (by kernel_rfl) (fun _ _ _ h => h) (by rfl) ?_ (by assumption) ?_
  rotate_left
  · intro w hSw; (try dsimp only at hSw); go_simp; try (with_reducible rfl)
  try simp only [Act.put, List.setIfInBounds_toArray, List.set_cons_zero, List.set_cons_succ]
  refine GoE.take (i := 3) (v := ?_) rfl (by decide) (by kernel_rfl) (by kernel_rfl) (by kernel_rfl) (by kernel_rfl) (fun _ _ _ h => h) (by rfl) ?_ (by assumption) ?_
  rotate_left
  · intro w hSw; (try dsimp only at hSw); go_simp; try (with_reducible rfl)
  try simp only [Act.put, List.setIfInBounds_toArray, List.set_cons_zero, List.set_cons_succ]
  refine GoE.one (i := 1) rfl (by kernel_rfl) (fun K hK => ?_)
  go_simp
  go_at_call 36
  (with_reducible refine (kd2).mono ?_)
  rintro e w13 ⟨q, rfl, h13⟩; obtain ⟨fn, hfn⟩ : ∃ fn, (bvs F).length = fn := ⟨_, rfl⟩; obtain ⟨fa, fc, rfl, _, _⟩ := Sl.valn h13 (m := fn) hfn; clear hfn; have S1 := (Hc.out _ _ (h13.pull 2)).2.2.2.2.2.2.2
  go_wp2_with fail
  refine hK.out _ _ (fun _ => S1) ?_
  clear hK K
  try simp only [Act.put, List.setIfInBounds_toArray, List.set_cons_zero, List.set_cons_succ]
  have hx := SrcOk.ofRdV (Gb.out w13 (SatL.tail (SatL.tail (SatL.tail h13))))
  have hK := Sl.toK (n := F.length) h13 (by simp)
  have hbb : (F.length + c.body.length) * 1 ≤ 140737488355328 := by omega
  have h63 : F.length + c.body.length ≤ maxLen := by unfold maxLen; omega
  refine GoE.one (i := 4) rfl (by kernel_rfl) (fun K hK2 => ?_)
  refine step_append_sl rfl (.tmp 52) (.tmp 54) rfl elem_byte rfl hK rfl hx (bvs_one _) hbb h63 ?_
  intro v14 w14 h14 _
  have h15 := Sl.ofK h14
  have S2 := (Hc.out _ _ (h15.pull 2)).2.2.2.2.2.2.2
  refine hK2.out _ _ (fun _ => S2) ?_
  clear hK2 K
  try simp only [Act.put, List.setIfInBounds_toArray, List.set_cons_zero, List.set_cons_succ]
  refine GoE.one (i := 5) rfl (by kernel_rfl) (fun K hK => ?_)
  go_simp
  refine hK.out _ _ (fun h => absurd rfl h) ?_
  clear hK K
  try simp only [Act.put, List.setIfInBounds_toArray, List.set_cons_zero, List.set_cons_succ]
  refine GoE.done (by kernel_rfl) ?_
  go_wp2_with fail
  go_ret
  refine Ret.mk ?_
  rw [← bvs_append, ← Hby.out] at h15
  exact SatL.tail (SatL.tail (h15.bring [1, 2, 0]))
end
end Go.Proofs.YtpecmkkcepnpeaaDoor
