/- VolPlans: for every input it returns true and writes nothing that was there. No condition. Printed by genplans.py. -/
import Derived.Test.YtgbaigbplaoeaaaPlE
import Derived.Test.YtgbaigbplaoeaaaKnown9
import Derived.Test.YtgbaigbplaoeaaaSuper
namespace Go.Proofs.Ytgbaigbplaoeaaa
set_option linter.unusedVariables false
set_option linter.unusedSimpArgs false
open Go.RowKit
theorem plan_form (b i : Int) : ∃ (x0 x1 x2 x3 x4 x5 x6 x7 : Int) (EB : List UInt8), planSup b i = .agg #[.int .i64 x0, .int .i64 x1, .int .i64 x2, .int .i64 x3, .int .i64 x4, .int .i64 x5, .int .i64 x6, .int .i64 x7] ∧ EB.length = 512 ∧
    (planErr b i = 0 → ∀ (w : World) (L : List HP), SatL w L → Calls Try.prog 27 #[.agg #[.int .i64 x0, .int .i64 x1, .int .i64 x2, .int .i64 x3, .int .i64 x4, .int .i64 x5, .int .i64 x6, .int .i64 x7]] w (Ret fun v w' => SatL w' (SlB 5 v EB :: L))) ∧
    (planErr b i = 0 → ∀ (w : World) (L : List HP), SatL w L → Calls Try.prog 10 #[.agg #[.int .i64 x0, .int .i64 x1, .int .i64 x2, .int .i64 x3, .int .i64 x4, .int .i64 x5, .int .i64 x6, .int .i64 x7]] w (Ret fun v w' => SatL w' (SlB 5 v EB :: L))) := by
  by_cases he : planErr b i = 0
  · obtain ⟨bn, iN, rfl, rfl, hg, hb, hi, hs⟩ := planErr_nats he
    exact ⟨_, _, _, _, _, _, _, _, encB bn iN, hs, encB_len bn iN, fun _ w L h => encode_ok h bn iN hb hi _ _, fun _ w L h => refencode_ok h bn iN hb hi _ _⟩
  · refine ⟨0, 0, 0, 0, 0, 0, 0, 0, List.replicate 512 0, by unfold planSup; rw [if_neg he]; rfl, List.length_replicate, fun h => absurd h he, fun h => absurd h he⟩
set_option maxRecDepth 100000 in
theorem Rd.time {w : World} {cs : List Value} (h : Rd Try.prog w 43 cs) : ∃ (sec nsec : Nat), cs = [.int .u32 (sec : Int), .int .u32 (nsec : Int)] ∧ sec < 4294967296 ∧ nsec < 4294967296 := by
  obtain ⟨hl, hf⟩ := Rd.struct Try.underlying43 h
  obtain ⟨u, hu, hu2⟩ := Rd.u32 (hf 0 _ rfl)
  obtain ⟨g, hg, hg2⟩ := Rd.u32 (hf 1 _ rfl)
  have hc : Try.prog.cellsOf 43 = 2 := by kernel_rfl
  rw [hc] at hl
  exact ⟨u, g, list2 hl hu hg, hu2, hg2⟩
section
variable {w : World} {L : List HP}
set_option maxRecDepth 100000 in
set_option maxHeartbeats 8000000 in
theorem plans_walk (a0 a1 : Int) (sec nsec : Nat) (v : Value) (bs : List UInt8) (w : World) (hse : sec < 4294967296) (hns : nsec < 4294967296) (hv : RdV v bs w) (hlen : bs.length ≤ 140737488351232) :
    Calls Try.prog 6 #[.int .i64 a0, .int .i64 a1, .agg #[.int .u32 sec, .int .u32 nsec], v] w (Ret fun r w' => r = .bool true ∧ SatL w' [old w]) := by
  have k1 := (sat_old w).alloc (.cells #[.int .u32 sec, .int .u32 nsec] 43)
  have hk := known_ok k1
  have hG0 : Gives [old w] (RdV v bs) := RdV.old hv
  have HP1 := hid (fun (w : World) (L : List HP) (h : SatL w L) => plan_ok h a0 a1)
  have HR1 := hid (fun (w : World) (L : List HP) (h : SatL w L) => refplan_ok h a0 a1)
  have HMP := hid (fun (w : World) (L : List HP) (h : SatL w L) => mkPx a0 a1 hse hns h)
  have HMR := hid (fun (w : World) (L : List HP) (h : SatL w L) => mkRx a0 a1 hse hns h)
  have HDP := hid (fun (w : World) (L : List HP) (v : Value) (h : SatL w (SlB 5 v bs :: L)) => decPx h)
  have HDR := hid (fun (w : World) (L : List HP) (h : SatL w L) (g : Gives L (RdV v bs)) => decRx h g)
  have HSX := hid (fun (w : World) (L : List HP) (x0 x1 x2 x3 x4 x5 x6 x7 : Int) (h : SatL w L) => super_ok x0 x1 x2 x3 x4 x5 x6 x7 h)
  obtain ⟨x0, x1, x2, x3, x4, x5, x6, x7, EB, hsup, hEB, he1, he2⟩ := plan_form a0 a1
  obtain ⟨y0, y1, y2, y3, y4, y5, y6, y7, hdec⟩ := decVx_form bs
  unfold PlanPost at HP1 HR1
  rw [hsup] at HP1 HR1
  rw [hdec] at HDP HDR
  obtain ⟨va, vc, rfl, _, _⟩ := hv.valn
  have Hlen := hid hlen
  have He1 := hid he1
  have He2 := hid he2
  have HEB := hid hEB
  have HG := hid hG0
  clear hlen he1 he2 hsup hdec hEB hse hns hv hG0 k1
  generalize planErr a0 a1 = pe at *
  generalize mkLx a0 a1 sec nsec = ML at *
  generalize decEx bs = de at *
  generalize hn : bs.length = n at *
  have Hn := hid hn
  clear hn
  have H16 := hid (fun (w' : World) (b1 b2 T1 T2 : Nat) (L : List HP) (x0 x1 x2 x3 x4 x5 x6 x7 : Int) (h : SatL w' (cl b2 T2 #[.int .i64 x0, .int .i64 x1, .int .i64 x2, .int .i64 x3, .int .i64 x4, .int .i64 x5, .int .i64 x6, .int .i64 x7] :: cl b1 T1 #[.int .i64 x0, .int .i64 x1, .int .i64 x2, .int .i64 x3, .int .i64 x4, .int .i64 x5, .int .i64 x6, .int .i64 x7] :: L)) => (⟨SatL.cell (h.pull 1 : SatL w' (cl _ _ _ :: _)) (i := 0) rfl, SatL.cell (h.pull 1 : SatL w' (cl _ _ _ :: _)) (i := 1) rfl, SatL.cell (h.pull 1 : SatL w' (cl _ _ _ :: _)) (i := 2) rfl, SatL.cell (h.pull 1 : SatL w' (cl _ _ _ :: _)) (i := 3) rfl, SatL.cell (h.pull 1 : SatL w' (cl _ _ _ :: _)) (i := 4) rfl, SatL.cell (h.pull 1 : SatL w' (cl _ _ _ :: _)) (i := 5) rfl, SatL.cell (h.pull 1 : SatL w' (cl _ _ _ :: _)) (i := 6) rfl, SatL.cell (h.pull 1 : SatL w' (cl _ _ _ :: _)) (i := 7) rfl, h.cell (i := 0) rfl, h.cell (i := 1) rfl, h.cell (i := 2) rfl, h.cell (i := 3) rfl, h.cell (i := 4) rfl, h.cell (i := 5) rfl, h.cell (i := 6) rfl, h.cell (i := 7) rfl⟩ : w'.cell? ⟨b1, 0, none⟩ = some (.int .i64 x0) ∧ w'.cell? ⟨b1, 1, none⟩ = some (.int .i64 x1) ∧ w'.cell? ⟨b1, 2, none⟩ = some (.int .i64 x2) ∧ w'.cell? ⟨b1, 3, none⟩ = some (.int .i64 x3) ∧ w'.cell? ⟨b1, 4, none⟩ = some (.int .i64 x4) ∧ w'.cell? ⟨b1, 5, none⟩ = some (.int .i64 x5) ∧ w'.cell? ⟨b1, 6, none⟩ = some (.int .i64 x6) ∧ w'.cell? ⟨b1, 7, none⟩ = some (.int .i64 x7) ∧ w'.cell? ⟨b2, 0, none⟩ = some (.int .i64 x0) ∧ w'.cell? ⟨b2, 1, none⟩ = some (.int .i64 x1) ∧ w'.cell? ⟨b2, 2, none⟩ = some (.int .i64 x2) ∧ w'.cell? ⟨b2, 3, none⟩ = some (.int .i64 x3) ∧ w'.cell? ⟨b2, 4, none⟩ = some (.int .i64 x4) ∧ w'.cell? ⟨b2, 5, none⟩ = some (.int .i64 x5) ∧ w'.cell? ⟨b2, 6, none⟩ = some (.int .i64 x6) ∧ w'.cell? ⟨b2, 7, none⟩ = some (.int .i64 x7)))
  go_enter Try.func6, Try.ntmps6
  go_upto_region 5 with (first
    | (go_at_call 8; (with_reducible refine hk.mono ?_); rintro e w1 ⟨v, rfl, rfl, hs1⟩; have p1 := HP1.out _ _ hs1)
    | (go_at_call 25; (with_reducible refine p1.mono ?_); rintro e w2 ⟨v, rfl, rfl, hs2⟩; have k2 := hs2.alloc (.cells #[.int .i64 x0, .int .i64 x1, .int .i64 x2, .int .i64 x3, .int .i64 x4, .int .i64 x5, .int .i64 x6, .int .i64 x7] 30); have p2 := HR1.out _ _ k2)
    | (go_at_call 9; (with_reducible refine p2.mono ?_); rintro e w3 ⟨v, rfl, rfl, hs3⟩; have k3 := hs3.alloc (.cells #[.int .i64 x0, .int .i64 x1, .int .i64 x2, .int .i64 x3, .int .i64 x4, .int .i64 x5, .int .i64 x6, .int .i64 x7] 26)))
  generalize w3.alloc (.cells #[.int .i64 x0, .int .i64 x1, .int .i64 x2, .int .i64 x3, .int .i64 x4, .int .i64 x5, .int .i64 x6, .int .i64 x7] 26) = w4 at k3 ⊢
  generalize w3.heap.size = rb at k3 ⊢
  generalize w2.heap.size = sb at k3 ⊢
  generalize hTB : w.heap.size = tb at k3 ⊢
  have h4 : SatL w4 (cl rb 26 #[.int .i64 x0, .int .i64 x1, .int .i64 x2, .int .i64 x3, .int .i64 x4, .int .i64 x5, .int .i64 x6, .int .i64 x7] :: cl sb 30 #[.int .i64 x0, .int .i64 x1, .int .i64 x2, .int .i64 x3, .int .i64 x4, .int .i64 x5, .int .i64 x6, .int .i64 x7] :: cl tb 43 #[.int .u32 sec, .int .u32 nsec] :: [old w]) := k3
  have hd := sat_drew.2 h4
  clear hs1 hs2 k2 hs3 k3 p1 p2 hk hTB h4
  refine GoE.start (fun w' => w'.cell? ⟨sb, 0, none⟩ = some (.int .i64 x0) ∧ w'.cell? ⟨sb, 1, none⟩ = some (.int .i64 x1) ∧ w'.cell? ⟨sb, 2, none⟩ = some (.int .i64 x2) ∧ w'.cell? ⟨sb, 3, none⟩ = some (.int .i64 x3) ∧ w'.cell? ⟨sb, 4, none⟩ = some (.int .i64 x4) ∧ w'.cell? ⟨sb, 5, none⟩ = some (.int .i64 x5) ∧ w'.cell? ⟨sb, 6, none⟩ = some (.int .i64 x6) ∧ w'.cell? ⟨sb, 7, none⟩ = some (.int .i64 x7) ∧ w'.cell? ⟨rb, 0, none⟩ = some (.int .i64 x0) ∧ w'.cell? ⟨rb, 1, none⟩ = some (.int .i64 x1) ∧ w'.cell? ⟨rb, 2, none⟩ = some (.int .i64 x2) ∧ w'.cell? ⟨rb, 3, none⟩ = some (.int .i64 x3) ∧ w'.cell? ⟨rb, 4, none⟩ = some (.int .i64 x4) ∧ w'.cell? ⟨rb, 5, none⟩ = some (.int .i64 x5) ∧ w'.cell? ⟨rb, 6, none⟩ = some (.int .i64 x6) ∧ w'.cell? ⟨rb, 7, none⟩ = some (.int .i64 x7)) 8 9 rfl (by kernel_rfl) ?_
  generalize w4.drew = w5 at hd ⊢
  have S5 := H16.out _ _ _ _ _ _ _ _ _ _ _ _ _ _ hd
  refine GoE.take (i := 0) (v := ?_) rfl (by decide) (by kernel_rfl) (by kernel_rfl) (by kernel_rfl) (by kernel_rfl) (fun _ _ _ h => h) (by rfl) ?_ (by assumption) ?_
  rotate_left
  · intro w hSw; (try dsimp only at hSw); go_simp; try (with_reducible rfl)
  try simp only [Act.put, List.setIfInBounds_toArray, List.set_cons_zero, List.set_cons_succ]
  refine GoE.take (i := 2) (v := ?_) rfl (by decide) (by kernel_rfl) (by kernel_rfl) (by kernel_rfl) (by kernel_rfl) (fun _ _ _ h => h) (by rfl) ?_ (by assumption) ?_
  rotate_left
  · intro w hSw; (try dsimp only at hSw); go_simp; try (with_reducible rfl)
  try simp only [Act.put, List.setIfInBounds_toArray, List.set_cons_zero, List.set_cons_succ]
  refine GoE.one (i := 1) rfl (by kernel_rfl) (fun K hK => ?_)
  go_simp
  go_at_call 13
  (with_reducible refine (HSX.out _ _ x0 x1 x2 x3 x4 x5 x6 x7 hd).mono ?_)
  rintro e w6 ⟨v6, rfl, rfl, h6⟩; have S6 := H16.out _ _ _ _ _ _ _ _ _ _ _ _ _ _ h6
  go_wp2_with fail
  refine hK.out _ _ (fun _ => S6) ?_
  clear hK K
  try simp only [Act.put, List.setIfInBounds_toArray, List.set_cons_zero, List.set_cons_succ]
  clear S5 hd
  refine GoE.take (i := 3) (v := ?_) rfl (by decide) (by kernel_rfl) (by kernel_rfl) (by kernel_rfl) (by kernel_rfl) (fun _ _ _ h => h) (by rfl) ?_ (by assumption) ?_
  rotate_left
  · intro w hSw; (try dsimp only at hSw); go_simp; try (with_reducible rfl)
  try simp only [Act.put, List.setIfInBounds_toArray, List.set_cons_zero, List.set_cons_succ]
  refine GoE.take (i := 4) (v := ?_) rfl (by decide) (by kernel_rfl) (by kernel_rfl) (by kernel_rfl) (by kernel_rfl) (fun _ _ _ h => h) (by rfl) ?_ (by assumption) ?_
  rotate_left
  · intro w hSw; (try dsimp only at hSw); go_simp; try (with_reducible rfl)
  try simp only [Act.put, List.setIfInBounds_toArray, List.set_cons_zero, List.set_cons_succ]
  refine GoE.take (i := 5) (v := ?_) rfl (by decide) (by kernel_rfl) (by kernel_rfl) (by kernel_rfl) (by kernel_rfl) (fun _ _ _ h => h) (by rfl) ?_ (by assumption) ?_
  rotate_left
  · intro w hSw; (try dsimp only at hSw); go_simp; try (with_reducible rfl)
  try simp only [Act.put, List.setIfInBounds_toArray, List.set_cons_zero, List.set_cons_succ]
  refine GoE.take (i := 6) (v := ?_) rfl (by decide) (by kernel_rfl) (by kernel_rfl) (by kernel_rfl) (by kernel_rfl) (fun _ _ _ h => h) (by rfl) ?_ (by assumption) ?_
  rotate_left
  · intro w hSw; (try dsimp only at hSw); go_simp; try (with_reducible rfl)
  try simp only [Act.put, List.setIfInBounds_toArray, List.set_cons_zero, List.set_cons_succ]
  refine GoE.take (i := 7) (v := ?_) rfl (by decide) (by kernel_rfl) (by kernel_rfl) (by kernel_rfl) (by kernel_rfl) (fun _ _ _ h => h) (by rfl) ?_ (by assumption) ?_
  rotate_left
  · intro w hSw; (try dsimp only at hSw); go_simp; try (with_reducible rfl)
  try simp only [Act.put, List.setIfInBounds_toArray, List.set_cons_zero, List.set_cons_succ]
  refine GoE.one (i := 8) rfl (by kernel_rfl) (fun K hK => ?_)
  go_simp
  refine hK.out _ _ (fun h => absurd rfl h) ?_
  clear hK K
  try simp only [Act.put, List.setIfInBounds_toArray, List.set_cons_zero, List.set_cons_succ]
  refine GoE.done (by kernel_rfl) ?_
  go_upto_region 7 with fail
  have hd := sat_drew.2 h6
  clear h6 S6
  by_cases hpe : pe = 0
  case' pos =>
    subst hpe
    have HE1 := hid (He1.out rfl)
    have HE2 := hid (He2.out rfl)
    obtain ⟨es, hes⟩ : ∃ es : ByteArray, (⟨EB.toArray⟩ : ByteArray) = es := ⟨_, rfl⟩
    have HC := hid (show ∀ (w : World) (v : Value), RdB v EB w → (convert 23 9 (v)).run Try.prog w = .ok (.string es) w from fun w v h => by rw [← hes]; exact RdB.conv h)
    clear He1 He2 hes
    refine GoE.start (fun w' => w'.cell? ⟨sb, 0, none⟩ = some (.int .i64 x0) ∧ w'.cell? ⟨sb, 1, none⟩ = some (.int .i64 x1) ∧ w'.cell? ⟨sb, 2, none⟩ = some (.int .i64 x2) ∧ w'.cell? ⟨sb, 3, none⟩ = some (.int .i64 x3) ∧ w'.cell? ⟨sb, 4, none⟩ = some (.int .i64 x4) ∧ w'.cell? ⟨sb, 5, none⟩ = some (.int .i64 x5) ∧ w'.cell? ⟨sb, 6, none⟩ = some (.int .i64 x6) ∧ w'.cell? ⟨sb, 7, none⟩ = some (.int .i64 x7) ∧ w'.cell? ⟨rb, 0, none⟩ = some (.int .i64 x0) ∧ w'.cell? ⟨rb, 1, none⟩ = some (.int .i64 x1) ∧ w'.cell? ⟨rb, 2, none⟩ = some (.int .i64 x2) ∧ w'.cell? ⟨rb, 3, none⟩ = some (.int .i64 x3) ∧ w'.cell? ⟨rb, 4, none⟩ = some (.int .i64 x4) ∧ w'.cell? ⟨rb, 5, none⟩ = some (.int .i64 x5) ∧ w'.cell? ⟨rb, 6, none⟩ = some (.int .i64 x6) ∧ w'.cell? ⟨rb, 7, none⟩ = some (.int .i64 x7)) 10 11 rfl (by kernel_rfl) ?_
    generalize w6.drew = w7 at hd ⊢
    have S7 := H16.out _ _ _ _ _ _ _ _ _ _ _ _ _ _ hd
    refine GoE.take (i := 0) (v := ?_) rfl (by decide) (by kernel_rfl) (by kernel_rfl) (by kernel_rfl) (by kernel_rfl) (fun _ _ _ h => h) (by rfl) ?_ (by assumption) ?_
    rotate_left
    · intro w hSw; (try dsimp only at hSw); go_simp; try (with_reducible rfl)
    try simp only [Act.put, List.setIfInBounds_toArray, List.set_cons_zero, List.set_cons_succ]
    refine GoE.take (i := 1) (v := ?_) rfl (by decide) (by kernel_rfl) (by kernel_rfl) (by kernel_rfl) (by kernel_rfl) (fun _ _ _ h => h) (by rfl) ?_ (by assumption) ?_
    rotate_left
    · intro w hSw; (try dsimp only at hSw); go_simp; try (with_reducible rfl)
    try simp only [Act.put, List.setIfInBounds_toArray, List.set_cons_zero, List.set_cons_succ]
    refine GoE.take (i := 2) (v := ?_) rfl (by decide) (by kernel_rfl) (by kernel_rfl) (by kernel_rfl) (by kernel_rfl) (fun _ _ _ h => h) (by rfl) ?_ (by assumption) ?_
    rotate_left
    · intro w hSw; (try dsimp only at hSw); go_simp; try (with_reducible rfl)
    try simp only [Act.put, List.setIfInBounds_toArray, List.set_cons_zero, List.set_cons_succ]
    refine GoE.take (i := 3) (v := ?_) rfl (by decide) (by kernel_rfl) (by kernel_rfl) (by kernel_rfl) (by kernel_rfl) (fun _ _ _ h => h) (by rfl) ?_ (by assumption) ?_
    rotate_left
    · intro w hSw; (try dsimp only at hSw); go_simp; try (with_reducible rfl)
    try simp only [Act.put, List.setIfInBounds_toArray, List.set_cons_zero, List.set_cons_succ]
    refine GoE.take (i := 6) (v := ?_) rfl (by decide) (by kernel_rfl) (by kernel_rfl) (by kernel_rfl) (by kernel_rfl) (fun _ _ _ h => h) (by rfl) ?_ (by assumption) ?_
    rotate_left
    · intro w hSw; (try dsimp only at hSw); go_simp; try (with_reducible rfl)
    try simp only [Act.put, List.setIfInBounds_toArray, List.set_cons_zero, List.set_cons_succ]
    refine GoE.one (i := 4) rfl (by kernel_rfl) (fun K hK => ?_)
    go_simp
    go_at_call 27
    (with_reducible refine (HE1.out _ _ hd).mono ?_)
    rintro e w8 ⟨v8, rfl, h8⟩; obtain ⟨ea, ec, rfl, _, _⟩ := Sl.valn h8 (m := 512) (by rw [bvs_len]; exact HEB.out); have S8 := H16.out _ _ _ _ _ _ _ _ _ _ _ _ _ _ h8.tail; have cv8 := HC.out _ _ (SlB.rd h8)
    go_wp2_with fail
    refine hK.out _ _ (fun _ => S8) ?_
    clear hK K
    try simp only [Act.put, List.setIfInBounds_toArray, List.set_cons_zero, List.set_cons_succ]
    clear S7 hd
    have S9 := And.intro cv8 S8
    refine GoE.more (fun w' => (convert 23 9 (.slice ea 512 ec)).run Try.prog w' = .ok (.string es) w' ∧ w'.cell? ⟨sb, 0, none⟩ = some (.int .i64 x0) ∧ w'.cell? ⟨sb, 1, none⟩ = some (.int .i64 x1) ∧ w'.cell? ⟨sb, 2, none⟩ = some (.int .i64 x2) ∧ w'.cell? ⟨sb, 3, none⟩ = some (.int .i64 x3) ∧ w'.cell? ⟨sb, 4, none⟩ = some (.int .i64 x4) ∧ w'.cell? ⟨sb, 5, none⟩ = some (.int .i64 x5) ∧ w'.cell? ⟨sb, 6, none⟩ = some (.int .i64 x6) ∧ w'.cell? ⟨sb, 7, none⟩ = some (.int .i64 x7) ∧ w'.cell? ⟨rb, 0, none⟩ = some (.int .i64 x0) ∧ w'.cell? ⟨rb, 1, none⟩ = some (.int .i64 x1) ∧ w'.cell? ⟨rb, 2, none⟩ = some (.int .i64 x2) ∧ w'.cell? ⟨rb, 3, none⟩ = some (.int .i64 x3) ∧ w'.cell? ⟨rb, 4, none⟩ = some (.int .i64 x4) ∧ w'.cell? ⟨rb, 5, none⟩ = some (.int .i64 x5) ∧ w'.cell? ⟨rb, 6, none⟩ = some (.int .i64 x6) ∧ w'.cell? ⟨rb, 7, none⟩ = some (.int .i64 x7)) (fun _ h => h.2) ?_
    clear S8 cv8
    refine GoE.take (i := 5) (v := ?_) rfl (by decide) (by kernel_rfl) (by kernel_rfl) (by kernel_rfl) (by kernel_rfl) (fun _ _ _ h => h) (by rfl) ?_ (by assumption) ?_
    rotate_left
    · intro w hSw; (try dsimp only at hSw); go_simp; try (with_reducible rfl)
    try simp only [Act.put, List.setIfInBounds_toArray, List.set_cons_zero, List.set_cons_succ]
    refine GoE.one (i := 7) rfl (by kernel_rfl) (fun K hK => ?_)
    go_simp
    go_at_call 10
    (with_reducible refine (HE2.out _ _ h8).mono ?_)
    rintro e w9 ⟨v9, rfl, h9⟩; obtain ⟨ga, gc, rfl, _, _⟩ := Sl.valn h9 (m := 512) (by rw [bvs_len]; exact HEB.out); have S10 := And.intro (HC.out _ _ (SlB.rd h9.swap)) (H16.out _ _ _ _ _ _ _ _ _ _ _ _ _ _ h9.tail.tail); have cv9 := HC.out _ _ (SlB.rd h9)
    go_wp2_with fail
    refine hK.out _ _ (fun _ => S10) ?_
    clear hK K
    try simp only [Act.put, List.setIfInBounds_toArray, List.set_cons_zero, List.set_cons_succ]
    have S11 := And.intro cv9 S10
    refine GoE.more (fun w' => (convert 23 9 (.slice ga 512 gc)).run Try.prog w' = .ok (.string es) w' ∧ (convert 23 9 (.slice ea 512 ec)).run Try.prog w' = .ok (.string es) w' ∧ w'.cell? ⟨sb, 0, none⟩ = some (.int .i64 x0) ∧ w'.cell? ⟨sb, 1, none⟩ = some (.int .i64 x1) ∧ w'.cell? ⟨sb, 2, none⟩ = some (.int .i64 x2) ∧ w'.cell? ⟨sb, 3, none⟩ = some (.int .i64 x3) ∧ w'.cell? ⟨sb, 4, none⟩ = some (.int .i64 x4) ∧ w'.cell? ⟨sb, 5, none⟩ = some (.int .i64 x5) ∧ w'.cell? ⟨sb, 6, none⟩ = some (.int .i64 x6) ∧ w'.cell? ⟨sb, 7, none⟩ = some (.int .i64 x7) ∧ w'.cell? ⟨rb, 0, none⟩ = some (.int .i64 x0) ∧ w'.cell? ⟨rb, 1, none⟩ = some (.int .i64 x1) ∧ w'.cell? ⟨rb, 2, none⟩ = some (.int .i64 x2) ∧ w'.cell? ⟨rb, 3, none⟩ = some (.int .i64 x3) ∧ w'.cell? ⟨rb, 4, none⟩ = some (.int .i64 x4) ∧ w'.cell? ⟨rb, 5, none⟩ = some (.int .i64 x5) ∧ w'.cell? ⟨rb, 6, none⟩ = some (.int .i64 x6) ∧ w'.cell? ⟨rb, 7, none⟩ = some (.int .i64 x7)) (fun _ h => h.2) ?_
    clear S9 S10 cv9
    refine GoE.take (i := 8) (v := ?_) rfl (by decide) (by kernel_rfl) (by kernel_rfl) (by kernel_rfl) (by kernel_rfl) (fun _ _ _ h => h) (by rfl) ?_ (by assumption) ?_
    rotate_left
    · intro w hSw; (try dsimp only at hSw); go_simp; try (with_reducible rfl)
    try simp only [Act.put, List.setIfInBounds_toArray, List.set_cons_zero, List.set_cons_succ]
    refine GoE.take (i := 9) (v := ?_) rfl (by decide) (by kernel_rfl) (by kernel_rfl) (by kernel_rfl) (by kernel_rfl) (fun _ _ _ h => h) (by rfl) ?_ (by assumption) ?_
    rotate_left
    · intro w hSw; (try dsimp only at hSw); go_simp; try (with_reducible rfl)
    try simp only [Act.put, List.setIfInBounds_toArray, List.set_cons_zero, List.set_cons_succ]
    refine GoE.one (i := 10) rfl (by kernel_rfl) (fun K hK => ?_)
    go_simp
    refine hK.out _ _ (fun h => absurd rfl h) ?_
    clear hK K
    try simp only [Act.put, List.setIfInBounds_toArray, List.set_cons_zero, List.set_cons_succ]
    refine GoE.done (by kernel_rfl) ?_
    have h10 := h9.tail.tail
    generalize w9 = w10 at h10 ⊢
    clear S11 h9 h8
  case' neg =>
    have hpe2 : (pe == 0) = false := by simpa using hpe
    clear He1 He2
    refine GoE.start (fun w' => w'.cell? ⟨sb, 0, none⟩ = some (.int .i64 x0) ∧ w'.cell? ⟨sb, 1, none⟩ = some (.int .i64 x1) ∧ w'.cell? ⟨sb, 2, none⟩ = some (.int .i64 x2) ∧ w'.cell? ⟨sb, 3, none⟩ = some (.int .i64 x3) ∧ w'.cell? ⟨sb, 4, none⟩ = some (.int .i64 x4) ∧ w'.cell? ⟨sb, 5, none⟩ = some (.int .i64 x5) ∧ w'.cell? ⟨sb, 6, none⟩ = some (.int .i64 x6) ∧ w'.cell? ⟨sb, 7, none⟩ = some (.int .i64 x7) ∧ w'.cell? ⟨rb, 0, none⟩ = some (.int .i64 x0) ∧ w'.cell? ⟨rb, 1, none⟩ = some (.int .i64 x1) ∧ w'.cell? ⟨rb, 2, none⟩ = some (.int .i64 x2) ∧ w'.cell? ⟨rb, 3, none⟩ = some (.int .i64 x3) ∧ w'.cell? ⟨rb, 4, none⟩ = some (.int .i64 x4) ∧ w'.cell? ⟨rb, 5, none⟩ = some (.int .i64 x5) ∧ w'.cell? ⟨rb, 6, none⟩ = some (.int .i64 x6) ∧ w'.cell? ⟨rb, 7, none⟩ = some (.int .i64 x7)) 10 11 rfl (by kernel_rfl) ?_
    generalize w6.drew = w7 at hd ⊢
    have S7 := H16.out _ _ _ _ _ _ _ _ _ _ _ _ _ _ hd
    refine GoE.take (i := 0) (v := ?_) rfl (by decide) (by kernel_rfl) (by kernel_rfl) (by kernel_rfl) (by kernel_rfl) (fun _ _ _ h => h) (by rfl) ?_ (by assumption) ?_
    rotate_left
    · intro w hSw; (try dsimp only at hSw); go_simp; try (with_reducible rfl)
    try simp only [Act.put, List.setIfInBounds_toArray, List.set_cons_zero, List.set_cons_succ]
    refine GoE.take (i := 1) (v := ?_) rfl (by decide) (by kernel_rfl) (by kernel_rfl) (by kernel_rfl) (by kernel_rfl) (fun _ _ _ h => h) (by rfl) ?_ (by assumption) ?_
    rotate_left
    · intro w hSw; (try dsimp only at hSw); go_simp; try (with_reducible rfl)
    try simp only [Act.put, List.setIfInBounds_toArray, List.set_cons_zero, List.set_cons_succ]
    refine GoE.take (i := 2) (v := ?_) rfl (by decide) (by kernel_rfl) (by kernel_rfl) (by kernel_rfl) (by kernel_rfl) (fun _ _ _ h => h) (by rfl) ?_ (by assumption) ?_
    rotate_left
    · intro w hSw; (try dsimp only at hSw); go_simp; try (with_reducible rfl)
    try simp only [Act.put, List.setIfInBounds_toArray, List.set_cons_zero, List.set_cons_succ]
    refine GoE.skip (i := 3) rfl (by decide) (by kernel_rfl) (by kernel_rfl) (by kernel_rfl) (by kernel_rfl) (fun _ _ _ h => h) (by rfl) (by assumption) ?_
    try simp only [Act.put, List.setIfInBounds_toArray, List.set_cons_zero, List.set_cons_succ]
    refine GoE.skip (i := 4) rfl (by decide) (by kernel_rfl) (by kernel_rfl) (by kernel_rfl) (by kernel_rfl) (fun _ _ _ h => h) (by rfl) (by assumption) ?_
    try simp only [Act.put, List.setIfInBounds_toArray, List.set_cons_zero, List.set_cons_succ]
    refine GoE.skip (i := 5) rfl (by decide) (by kernel_rfl) (by kernel_rfl) (by kernel_rfl) (by kernel_rfl) (fun _ _ _ h => h) (by rfl) (by assumption) ?_
    try simp only [Act.put, List.setIfInBounds_toArray, List.set_cons_zero, List.set_cons_succ]
    refine GoE.skip (i := 6) rfl (by decide) (by kernel_rfl) (by kernel_rfl) (by kernel_rfl) (by kernel_rfl) (fun _ _ _ h => h) (by rfl) (by assumption) ?_
    try simp only [Act.put, List.setIfInBounds_toArray, List.set_cons_zero, List.set_cons_succ]
    refine GoE.skip (i := 7) rfl (by decide) (by kernel_rfl) (by kernel_rfl) (by kernel_rfl) (by kernel_rfl) (fun _ _ _ h => h) (by rfl) (by assumption) ?_
    try simp only [Act.put, List.setIfInBounds_toArray, List.set_cons_zero, List.set_cons_succ]
    refine GoE.skip (i := 8) rfl (by decide) (by kernel_rfl) (by kernel_rfl) (by kernel_rfl) (by kernel_rfl) (fun _ _ _ h => h) (by rfl) (by assumption) ?_
    try simp only [Act.put, List.setIfInBounds_toArray, List.set_cons_zero, List.set_cons_succ]
    refine GoE.skip (i := 9) rfl (by decide) (by kernel_rfl) (by kernel_rfl) (by kernel_rfl) (by kernel_rfl) (fun _ _ _ h => h) (by rfl) (by assumption) ?_
    try simp only [Act.put, List.setIfInBounds_toArray, List.set_cons_zero, List.set_cons_succ]
    refine GoE.one (i := 10) rfl (by kernel_rfl) (fun K hK => ?_)
    go_simp
    refine hK.out _ _ (fun h => absurd rfl h) ?_
    clear hK K
    try simp only [Act.put, List.setIfInBounds_toArray, List.set_cons_zero, List.set_cons_succ]
    refine GoE.done (by kernel_rfl) ?_
    have h10 := hd
    generalize w7 = w10 at h10 ⊢
    clear hd S7
  all_goals
    have t0 : True := trivial
    have h11 : SatL w10 (cl tb 43 #[.int .u32 sec, .int .u32 nsec] :: [old w]) := h10.tail.tail
    have hrv := (HG.out.nx) _ h11
    have hle := Hlen.out
    have hln := Hn.out
    clear h10
    go_upto_region 10 with (at_builtin; refine wpList_newcopyL (w := w10) (nb := w10.heap.size) rfl rfl (.tmp 52) (.tmp 53) rfl rfl rfl h11 hln hrv hle ?_; intro a12 c12 w12 _ h12)
    clear hrv hle hln h11
    have p3 := HDP.out _ _ _ h12
    go_upto_region 12 with (first
      | (go_at_call 11; (with_reducible refine p3.mono ?_); rintro e w13 ⟨v13, rfl, rfl, h13⟩; have k13 := h13.alloc (.cells #[.int .i64 y0, .int .i64 y1, .int .i64 y2, .int .i64 y3, .int .i64 y4, .int .i64 y5, .int .i64 y6, .int .i64 y7] 30); have p4 := HDR.out _ _ k13 HG.out.nx.nx.nx)
      | (go_at_call 12; (with_reducible refine p4.mono ?_); rintro e w14 ⟨v14, rfl, rfl, h14⟩; have k14 := h14.alloc (.cells #[.int .i64 y0, .int .i64 y1, .int .i64 y2, .int .i64 y3, .int .i64 y4, .int .i64 y5, .int .i64 y6, .int .i64 y7] 26)))
    generalize w14.alloc (.cells #[.int .i64 y0, .int .i64 y1, .int .i64 y2, .int .i64 y3, .int .i64 y4, .int .i64 y5, .int .i64 y6, .int .i64 y7] 26) = w15 at k14 ⊢
    generalize w14.heap.size = rb2 at k14 ⊢
    generalize w13.heap.size = sb2 at k14 ⊢
    have h15 : SatL w15 (cl rb2 26 #[.int .i64 y0, .int .i64 y1, .int .i64 y2, .int .i64 y3, .int .i64 y4, .int .i64 y5, .int .i64 y6, .int .i64 y7] :: cl sb2 30 #[.int .i64 y0, .int .i64 y1, .int .i64 y2, .int .i64 y3, .int .i64 y4, .int .i64 y5, .int .i64 y6, .int .i64 y7] :: SlB 5 (.slice a12 n c12) bs :: cl tb 43 #[.int .u32 sec, .int .u32 nsec] :: [old w]) := k14
    clear p3 p4 h12 h13 k13 h14 k14
    obtain ⟨bsS, hbS⟩ : ∃ es : ByteArray, (⟨bs.toArray⟩ : ByteArray) = es := ⟨_, rfl⟩
    have HCB := hid (show ∀ (w : World) (v : Value), RdV v bs w → (convert 23 9 (v)).run Try.prog w = .ok (.string bsS) w from fun w v h => by rw [← hbS]; exact RdV.conv h)
    have HCA := hid (show ∀ (w : World) (v : Value), RdB v bs w → (convert 23 9 (v)).run Try.prog w = .ok (.string bsS) w from fun w v h => by rw [← hbS]; exact RdB.conv h)
    clear hbS
    have hd := sat_drew.2 h15
    clear h15
    have HS := hid (fun (w' : World) (h : SatL w' (cl rb2 26 #[.int .i64 y0, .int .i64 y1, .int .i64 y2, .int .i64 y3, .int .i64 y4, .int .i64 y5, .int .i64 y6, .int .i64 y7] :: cl sb2 30 #[.int .i64 y0, .int .i64 y1, .int .i64 y2, .int .i64 y3, .int .i64 y4, .int .i64 y5, .int .i64 y6, .int .i64 y7] :: SlB 5 (.slice a12 n c12) bs :: cl tb 43 #[.int .u32 sec, .int .u32 nsec] :: [old w])) => (⟨HCA.out _ _ (SlB.rd h.tail.tail), HCB.out _ _ (HG.out.nx.nx.nx.nx _ h), H16.out _ _ _ _ _ _ _ _ _ _ _ _ _ _ h⟩ : (convert 23 9 (.slice a12 n c12)).run Try.prog w' = .ok (.string bsS) w' ∧ (convert 23 9 (.slice va n vc)).run Try.prog w' = .ok (.string bsS) w' ∧ w'.cell? ⟨sb2, 0, none⟩ = some (.int .i64 y0) ∧ w'.cell? ⟨sb2, 1, none⟩ = some (.int .i64 y1) ∧ w'.cell? ⟨sb2, 2, none⟩ = some (.int .i64 y2) ∧ w'.cell? ⟨sb2, 3, none⟩ = some (.int .i64 y3) ∧ w'.cell? ⟨sb2, 4, none⟩ = some (.int .i64 y4) ∧ w'.cell? ⟨sb2, 5, none⟩ = some (.int .i64 y5) ∧ w'.cell? ⟨sb2, 6, none⟩ = some (.int .i64 y6) ∧ w'.cell? ⟨sb2, 7, none⟩ = some (.int .i64 y7) ∧ w'.cell? ⟨rb2, 0, none⟩ = some (.int .i64 y0) ∧ w'.cell? ⟨rb2, 1, none⟩ = some (.int .i64 y1) ∧ w'.cell? ⟨rb2, 2, none⟩ = some (.int .i64 y2) ∧ w'.cell? ⟨rb2, 3, none⟩ = some (.int .i64 y3) ∧ w'.cell? ⟨rb2, 4, none⟩ = some (.int .i64 y4) ∧ w'.cell? ⟨rb2, 5, none⟩ = some (.int .i64 y5) ∧ w'.cell? ⟨rb2, 6, none⟩ = some (.int .i64 y6) ∧ w'.cell? ⟨rb2, 7, none⟩ = some (.int .i64 y7)))
    refine GoE.start (fun w' => (convert 23 9 (.slice a12 n c12)).run Try.prog w' = .ok (.string bsS) w' ∧ (convert 23 9 (.slice va n vc)).run Try.prog w' = .ok (.string bsS) w' ∧ w'.cell? ⟨sb2, 0, none⟩ = some (.int .i64 y0) ∧ w'.cell? ⟨sb2, 1, none⟩ = some (.int .i64 y1) ∧ w'.cell? ⟨sb2, 2, none⟩ = some (.int .i64 y2) ∧ w'.cell? ⟨sb2, 3, none⟩ = some (.int .i64 y3) ∧ w'.cell? ⟨sb2, 4, none⟩ = some (.int .i64 y4) ∧ w'.cell? ⟨sb2, 5, none⟩ = some (.int .i64 y5) ∧ w'.cell? ⟨sb2, 6, none⟩ = some (.int .i64 y6) ∧ w'.cell? ⟨sb2, 7, none⟩ = some (.int .i64 y7) ∧ w'.cell? ⟨rb2, 0, none⟩ = some (.int .i64 y0) ∧ w'.cell? ⟨rb2, 1, none⟩ = some (.int .i64 y1) ∧ w'.cell? ⟨rb2, 2, none⟩ = some (.int .i64 y2) ∧ w'.cell? ⟨rb2, 3, none⟩ = some (.int .i64 y3) ∧ w'.cell? ⟨rb2, 4, none⟩ = some (.int .i64 y4) ∧ w'.cell? ⟨rb2, 5, none⟩ = some (.int .i64 y5) ∧ w'.cell? ⟨rb2, 6, none⟩ = some (.int .i64 y6) ∧ w'.cell? ⟨rb2, 7, none⟩ = some (.int .i64 y7)) 15 16 rfl (by kernel_rfl) ?_
    generalize w15.drew = w16 at hd ⊢
    have S16 := HS.out _ hd
    refine GoE.take (i := 0) (v := ?_) rfl (by decide) (by kernel_rfl) (by kernel_rfl) (by kernel_rfl) (by kernel_rfl) (fun _ _ _ h => h) (by rfl) ?_ (by assumption) ?_
    rotate_left
    · intro w hSw; (try dsimp only at hSw); go_simp; try (with_reducible rfl)
    try simp only [Act.put, List.setIfInBounds_toArray, List.set_cons_zero, List.set_cons_succ]
    refine GoE.take (i := 2) (v := ?_) rfl (by decide) (by kernel_rfl) (by kernel_rfl) (by kernel_rfl) (by kernel_rfl) (fun _ _ _ h => h) (by rfl) ?_ (by assumption) ?_
    rotate_left
    · intro w hSw; (try dsimp only at hSw); go_simp; try (with_reducible rfl)
    try simp only [Act.put, List.setIfInBounds_toArray, List.set_cons_zero, List.set_cons_succ]
    refine GoE.one (i := 1) rfl (by kernel_rfl) (fun K hK => ?_)
    go_simp
    go_at_call 13
    (with_reducible refine (HSX.out _ _ y0 y1 y2 y3 y4 y5 y6 y7 hd).mono ?_)
    rintro e w17 ⟨v17, rfl, rfl, h17⟩; have S17 := HS.out _ h17
    go_wp2_with fail
    refine hK.out _ _ (fun _ => S17) ?_
    clear hK K
    try simp only [Act.put, List.setIfInBounds_toArray, List.set_cons_zero, List.set_cons_succ]
    clear S16 hd
    refine GoE.take (i := 3) (v := ?_) rfl (by decide) (by kernel_rfl) (by kernel_rfl) (by kernel_rfl) (by kernel_rfl) (fun _ _ _ h => h) (by rfl) ?_ (by assumption) ?_
    rotate_left
    · intro w hSw; (try dsimp only at hSw); go_simp; try (with_reducible rfl)
    try simp only [Act.put, List.setIfInBounds_toArray, List.set_cons_zero, List.set_cons_succ]
    refine GoE.take (i := 4) (v := ?_) rfl (by decide) (by kernel_rfl) (by kernel_rfl) (by kernel_rfl) (by kernel_rfl) (fun _ _ _ h => h) (by rfl) ?_ (by assumption) ?_
    rotate_left
    · intro w hSw; (try dsimp only at hSw); go_simp; try (with_reducible rfl)
    try simp only [Act.put, List.setIfInBounds_toArray, List.set_cons_zero, List.set_cons_succ]
    refine GoE.take (i := 5) (v := ?_) rfl (by decide) (by kernel_rfl) (by kernel_rfl) (by kernel_rfl) (by kernel_rfl) (fun _ _ _ h => h) (by rfl) ?_ (by assumption) ?_
    rotate_left
    · intro w hSw; (try dsimp only at hSw); go_simp; try (with_reducible rfl)
    try simp only [Act.put, List.setIfInBounds_toArray, List.set_cons_zero, List.set_cons_succ]
    refine GoE.take (i := 6) (v := ?_) rfl (by decide) (by kernel_rfl) (by kernel_rfl) (by kernel_rfl) (by kernel_rfl) (fun _ _ _ h => h) (by rfl) ?_ (by assumption) ?_
    rotate_left
    · intro w hSw; (try dsimp only at hSw); go_simp; try (with_reducible rfl)
    try simp only [Act.put, List.setIfInBounds_toArray, List.set_cons_zero, List.set_cons_succ]
    refine GoE.take (i := 7) (v := ?_) rfl (by decide) (by kernel_rfl) (by kernel_rfl) (by kernel_rfl) (by kernel_rfl) (fun _ _ _ h => h) (by rfl) ?_ (by assumption) ?_
    rotate_left
    · intro w hSw; (try dsimp only at hSw); go_simp; try (with_reducible rfl)
    try simp only [Act.put, List.setIfInBounds_toArray, List.set_cons_zero, List.set_cons_succ]
    refine GoE.take (i := 8) (v := ?_) rfl (by decide) (by kernel_rfl) (by kernel_rfl) (by kernel_rfl) (by kernel_rfl) (fun _ _ _ h => h) (by rfl) ?_ (by assumption) ?_
    rotate_left
    · intro w hSw; (try dsimp only at hSw); go_simp; try (with_reducible rfl)
    try simp only [Act.put, List.setIfInBounds_toArray, List.set_cons_zero, List.set_cons_succ]
    refine GoE.take (i := 9) (v := ?_) rfl (by decide) (by kernel_rfl) (by kernel_rfl) (by kernel_rfl) (by kernel_rfl) (fun _ _ _ h => h) (by rfl) ?_ (by assumption) ?_
    rotate_left
    · intro w hSw; (try dsimp only at hSw); go_simp; try (with_reducible rfl)
    try simp only [Act.put, List.setIfInBounds_toArray, List.set_cons_zero, List.set_cons_succ]
    refine GoE.take (i := 10) (v := ?_) rfl (by decide) (by kernel_rfl) (by kernel_rfl) (by kernel_rfl) (by kernel_rfl) (fun _ _ _ h => h) (by rfl) ?_ (by assumption) ?_
    rotate_left
    · intro w hSw; (try dsimp only at hSw); go_simp; try (with_reducible rfl)
    try simp only [Act.put, List.setIfInBounds_toArray, List.set_cons_zero, List.set_cons_succ]
    refine GoE.take (i := 11) (v := ?_) rfl (by decide) (by kernel_rfl) (by kernel_rfl) (by kernel_rfl) (by kernel_rfl) (fun _ _ _ h => h) (by rfl) ?_ (by assumption) ?_
    rotate_left
    · intro w hSw; (try dsimp only at hSw); go_simp; try (with_reducible rfl)
    try simp only [Act.put, List.setIfInBounds_toArray, List.set_cons_zero, List.set_cons_succ]
    refine GoE.take (i := 12) (v := ?_) rfl (by decide) (by kernel_rfl) (by kernel_rfl) (by kernel_rfl) (by kernel_rfl) (fun _ _ _ h => h) (by rfl) ?_ (by assumption) ?_
    rotate_left
    · intro w hSw; (try dsimp only at hSw); go_simp; try (with_reducible rfl)
    try simp only [Act.put, List.setIfInBounds_toArray, List.set_cons_zero, List.set_cons_succ]
    refine GoE.take (i := 13) (v := ?_) rfl (by decide) (by kernel_rfl) (by kernel_rfl) (by kernel_rfl) (by kernel_rfl) (fun _ _ _ h => h) (by rfl) ?_ (by assumption) ?_
    rotate_left
    · intro w hSw; (try dsimp only at hSw); go_simp; try (with_reducible rfl)
    try simp only [Act.put, List.setIfInBounds_toArray, List.set_cons_zero, List.set_cons_succ]
    refine GoE.take (i := 14) (v := ?_) rfl (by decide) (by kernel_rfl) (by kernel_rfl) (by kernel_rfl) (by kernel_rfl) (fun _ _ _ h => h) (by rfl) ?_ (by assumption) ?_
    rotate_left
    · intro w hSw; (try dsimp only at hSw); go_simp; try (with_reducible rfl)
    try simp only [Act.put, List.setIfInBounds_toArray, List.set_cons_zero, List.set_cons_succ]
    refine GoE.one (i := 15) rfl (by kernel_rfl) (fun K hK => ?_)
    go_simp
    refine hK.out _ _ (fun h => absurd rfl h) ?_
    clear hK K
    try simp only [Act.put, List.setIfInBounds_toArray, List.set_cons_zero, List.set_cons_succ]
    refine GoE.done (by kernel_rfl) ?_
    clear S17
    have h18 : SatL w17 (cl tb 43 #[.int .u32 sec, .int .u32 nsec] :: [old w]) := h17.tail.tail.tail
    clear h17 HS
    go_upto_region 14 with fail
    have c0 := h18.cell (i := 0) rfl
    have c1 := h18.cell (i := 1) rfl
    have p5 := HMP.out _ _ h18
    go_upto_region 15 with (go_at_call 28; (with_reducible refine p5.mono ?_); rintro e w19 ⟨v19, rfl, lv, rfl, h19⟩)
    clear c0 c1 p5
    have c0 := SatL.cell (h19.pull 1 : SatL _ (cl _ _ _ :: _)) (i := 0) rfl
    have c1 := SatL.cell (h19.pull 1 : SatL _ (cl _ _ _ :: _)) (i := 1) rfl
    have p6 := HMR.out _ _ h19
    go_upto_region 16 with (go_at_call 29; (with_reducible refine p6.mono ?_); rintro e w20 ⟨v20, rfl, lv2, rfl, h20⟩)
    clear c0 c1 p6
    have p7 := sameLx h20.swap
    go_wp2_with (go_at_call 30; (with_reducible refine p7.mono ?_); rintro e w21 ⟨v21, rfl, rfl, h21⟩)
    go_ret
    exact Ret.mk ⟨rfl, h21.tail⟩
end
end Go.Proofs.Ytgbaigbplaoeaaa
