/- vol: Mkfs of a good plan. No condition beside the sizes. -/
import Derived.Test.YtgbaigbplaoeaaaPlB
import Derived.Test.YtgbaigbplaoeaaaCopy
import Derived.Test.YtgbaigbplaoeaaaDecodeR
namespace Go.Proofs.Ytgbaigbplaoeaaa
set_option linter.unusedVariables false
set_option linter.unusedSimpArgs false
open Go.RowKit
theorem step_copyV {P : Program} {w : World} {l : List HP} {T bytes : Nat} {xs ys zs : List Value} {ops : Array Oper} {o : Oper} {a : Act} {K : Act → World → Prop} {Q : Exit → Act → World → Prop} {X : Prop} (hgd : o.guard = none) (s x : Operand) {t u : Nat}
    (ho : o.op = .call { callee := .builtin .copy, args := #[s, x], argTypes := #[t, u] }) (E : ElemOk P t T 1 bytes zs) {b off n cap i c d : Nat} (hs : a.eval s = .slice (some ⟨b, off + i, none⟩) d c)
    (h : SatL w (Sl T (.slice (some ⟨b, off, none⟩) n cap) xs :: l)) {y : Value} (hy : a.eval x = y) {m : Nat} (hx : SrcOk P u 1 w y m ys)
    (h1 : ∀ y ∈ ys, y.oneCell' = true) (him : i + m ≤ n) (hmd : m ≤ d)
    (H : ∀ w', SatL w' (Sl T (.slice (some ⟨b, off, none⟩) n cap) (xs.take i ++ ys ++ xs.drop (i + m)) :: l) → K (a.put o.dst (.int .i64 m)) w') :
    if Region.wanted o (yielded ops a.tmps) = true then Oper.wp P o a w K Q else X := by
  have hw : Region.wanted o (yielded ops a.tmps) = true := by simp [Region.wanted, hgd]
  rw [if_pos hw]
  obtain ⟨w', hr, h2⟩ := run_copy_sl (ty := o.type) (c := c) (d := d) E h hx h1 him hmd
  unfold Oper.wp execOp
  simp only [ho, resolve, invoke, builtin, Sem.run_bind, Sem.run_pure, Result.andThen_ok, List.map_toArray, List.map_cons, List.map_nil, hs, hy, hr]
  exact H w' h2
theorem bitRows_one (P : Nat → Bool) : bitRows 1 P = [bitsN 512 P] := by
  unfold bitRows
  simp
section
variable {w : World} {L : List HP}
theorem planp_good {b i : Nat} (hg : planGood b i) (he : planErr b i = 0) (h : SatL w L) : Calls Try.prog 25 #[.int .i64 b, .int .i64 i] w (Ret fun v w' => v = .tuple #[.agg (planCells b i (tableN b) (dataN b i)), .int .i64 0] ∧ SatL w' L) := by
  refine (plan_ok h b i).mono ?_
  rintro e w' ⟨v, rfl, hv, hs⟩
  obtain ⟨h1, h2, _⟩ := plan_nat hg he
  refine ⟨v, rfl, ?_, hs⟩
  rw [hv, he]
  unfold planSup
  rw [if_pos he, h1, h2]
  rfl
theorem encp_ok {b i tb dt : Nat} (hb : b < 4294967296) (hi : i < 4294967296) (h : SatL w L) : Calls Try.prog 27 #[.agg (planCells b i tb dt)] w (Ret fun v w' => SatL w' (SlB 5 v (encB b i) :: L)) := encode_ok h b i hb hi tb dt
theorem bits1_ok {f : Nat} {cs : Array Value} {P : Nat → Bool} (hcf : CallNo Try.prog f) (hf : ∀ j, j < 1 * 4096 → Gives L (fun w' => Calls Try.prog f (#[.int .i64 (j : Int)] ++ cs) w' fun e w'' => e = .returned (.bool (P j)) ∧ w' = w'')) (h : SatL w L) :
    Calls Try.prog 48 #[.int .i64 1, .func (.func f) #[] cs] w (Ret fun v w' => ∃ ra rc bb bo cc, v = .slice (some ⟨bb, bo, none⟩) 1 cc ∧ SatL w' (Sl 23 (.slice (some ⟨bb, bo, none⟩) 1 cc) [.slice ra 512 rc] :: SlB 5 (.slice ra 512 rc) (bitsN 512 P) :: L)) := by
  refine (bits_ok (n := 1) (by omega) hcf hf h : Calls Try.prog 48 #[.int .i64 1, .func (.func f) #[] cs] w _).mono ?_
  rintro e w' ⟨v, rfl, hs⟩
  rw [bitRows_one] at hs
  obtain ⟨rs, hrs, h1⟩ := sat_RowsM.1 hs
  have h2 := sat_RowsS.1 h1
  cases rs with
  | nil => simp at hrs
  | cons r rs =>
    cases rs with
    | cons _ _ => simp at hrs
    | nil =>
      have hd : r.d = bitsN 512 P := by simpa using hrs
      have h3 : SatL w' (SlB 5 r.v r.d :: big (fun r : RwS => SlB 5 r.v r.d) [] :: Sl 23 v [r.v] :: L) := big_cons.1 h2.swap
      rw [hd] at h3
      obtain ⟨ra, rc, e1, _, _⟩ := Sl.valn h3 (m := 512) (by rw [bvs_len, bitsN_len])
      have h4 := h3.pull 2
      obtain ⟨va, vc, e2, _, _⟩ := Sl.valn h4 (m := 1) rfl
      subst e2
      obtain ⟨bb, bo, e3⟩ := Sl.addr h4 (by omega)
      subst e3
      rw [e1] at h4
      exact ⟨_, rfl, ra, rc, bb, bo, vc, rfl, (h4.pull 2 : SatL _ (big _ _ :: _)).tail⟩
theorem PutsR.snoc2 {v : Value} {ps : List Pt} {b1 b2 : Int} {u1 u2 : Value} {d1 d2 : List UInt8} (h : SatL w (SlK 73 2 v (ps.length + 2) (pcells ps ++ [.int .i64 b1, u1, .int .i64 b2, u2]) :: big (fun p : Pt => SlB 5 p.v p.d) ps :: SlB 5 u1 d1 :: SlB 5 u2 d2 :: L)) :
    SatL w (PutsR v (ps ++ [⟨b1, u1, d1⟩, ⟨b2, u2, d2⟩]) :: L) := by
  have e : pcells (ps ++ [⟨b1, u1, d1⟩, ⟨b2, u2, d2⟩]) = pcells ps ++ [.int .i64 b1, u1, .int .i64 b2, u2] := by simp [pcells]
  rw [sat_PutsR, e, List.length_append]
  have h1 : SatL w (SlB 5 u2 d2 :: SlB 5 u1 d1 :: SlK 73 2 v (ps.length + 2) (pcells ps ++ [.int .i64 b1, u1, .int .i64 b2, u2]) :: big (fun p : Pt => SlB 5 p.v p.d) ps :: L) := h.bring [3, 2, 0, 1]
  have h2 : SatL w (big (fun p : Pt => SlB 5 p.v p.d) [⟨b2, u2, d2⟩] :: SlB 5 u1 d1 :: SlK 73 2 v (ps.length + 2) (pcells ps ++ [.int .i64 b1, u1, .int .i64 b2, u2]) :: big (fun p : Pt => SlB 5 p.v p.d) ps :: L) := big_cons.2 ((big_nil (f := fun p : Pt => SlB 5 p.v p.d)).2 h1).swap
  have h3 : SatL w (big (fun p : Pt => SlB 5 p.v p.d) [⟨b1, u1, d1⟩, ⟨b2, u2, d2⟩] :: SlK 73 2 v (ps.length + 2) (pcells ps ++ [.int .i64 b1, u1, .int .i64 b2, u2]) :: big (fun p : Pt => SlB 5 p.v p.d) ps :: L) := big_cons.2 h2.swap
  exact (big_append.2 (h3.bring [2, 0])).swap
theorem table_eq (dt sec nsec : Nat) : (bvs (List.replicate 512 0)).take 128 ++ bvs (rootB dt sec nsec) ++ (bvs (List.replicate 512 0)).drop 256 = bvs (tableB dt sec nsec) := by
  unfold tableB
  rw [bvs_append, bvs_append]
  congr 1
theorem dir_eq : (bvs (List.replicate 512 0)).take 0 ++ bvs (entryB [46] ++ entryB [46, 46]) ++ (bvs (List.replicate 512 0)).drop 64 = bvs dirB := by
  unfold dirB
  rw [List.take_zero, List.nil_append, bvs_append]
  congr 1
set_option maxRecDepth 100000 in
set_option maxHeartbeats 8000000 in
theorem mkfsP_ok {b i sec nsec : Nat} (hg : planGood b i) (he : planErr b i = 0) (hse : sec < 4294967296) (hns : nsec < 4294967296) (h : SatL w L) :
    Calls Try.prog 28 #[.int .i64 b, .int .i64 i, .agg #[.int .u32 sec, .int .u32 nsec]] w (Ret fun v w' => ∃ lv, v = .tuple #[lv, .int .i64 0] ∧ SatL w' (PutsL lv (mkfsL b i sec nsec) :: L)) := by
  have k1 := h.alloc (.cells #[.int .i64 b] 3)
  have k2 := k1.allocN (n := w.heap.size + 1) (.cells #[.int .i64 i] 3) (by simp)
  have k3 := k2.allocN (n := w.heap.size + 1 + 1) (.cells #[.int .u32 sec, .int .u32 nsec] 43) (by simp)
  have hpl := planp_good hg he k3
  have y3 := SatL.cell (k3.pull 2 : SatL _ (cl _ _ _ :: _)) (i := 0) (v := .int .i64 b) rfl
  have y4 := SatL.cell (k3.pull 1 : SatL _ (cl _ _ _ :: _)) (i := 0) (v := .int .i64 i) rfl
  obtain ⟨_, _, hd8, ht0, ht1⟩ := plan_nat hg he
  have hbb : b ≤ 65536 ∧ i ≤ 4096 ∧ 8 ≤ i := by obtain ⟨g1, g2, g3, g4, g5⟩ := hg; omega
  have hle := encB_len b i
  have hen := fun (w : World) (L : List HP) (tb dt : Nat) (h : SatL w L) => encp_ok (tb := tb) (dt := dt) (show b < 4294967296 by omega) (show i < 4294967296 by omega) h
  clear hg he h k1 k2 k3
  generalize hE : encB b i = EB at *
  generalize htb : tableN b = tb at *
  generalize hdt : dataN b i = dt at *
  unfold mkfsL
  rw [htb, hdt, hE]
  clear hE htb hdt
  obtain ⟨q, hq⟩ : ∃ q, tb = q + 69 := ⟨tb - 69, by omega⟩
  have Hle := hid hle
  have Hen := hid hen
  have Hqt := hid hq
  clear hle hen hq
  go_enter Try.func28, Try.ntmps28
  go_upto_region 4 with (go_at_call 25; (with_reducible refine hpl.mono ?_); rintro e w1 ⟨v, rfl, rfl, hs1⟩)
  have h4 := hs1.alloc (.cells #[.int .i64 b, .int .i64 i, .int .i64 1, .int .i64 2, .int .i64 68, .int .i64 69, .int .i64 tb, .int .i64 dt] 30)
  generalize w1.alloc (.cells #[.int .i64 b, .int .i64 i, .int .i64 1, .int .i64 2, .int .i64 68, .int .i64 69, .int .i64 tb, .int .i64 dt] 30) = w2 at h4 ⊢
  generalize w1.heap.size = c8 at h4 ⊢
  generalize w.heap.size + 1 + 1 = c5 at h4 ⊢
  generalize w.heap.size + 1 = c4 at h4 ⊢
  generalize w.heap.size = c3 at h4 ⊢
  clear hs1 hpl y3 y4
  have Hc8 := hid (fun (w' : World) (X : List HP) (h : SatL w' (cl c8 30 #[.int .i64 b, .int .i64 i, .int .i64 1, .int .i64 2, .int .i64 68, .int .i64 69, .int .i64 tb, .int .i64 dt] :: X)) => (⟨h.cell (i := 0) rfl, h.cell (i := 1) rfl, h.cell (i := 2) rfl, h.cell (i := 3) rfl, h.cell (i := 4) rfl, h.cell (i := 5) rfl, h.cell (i := 6) rfl, h.cell (i := 7) rfl⟩ :
    w'.cell? ⟨c8, 0, none⟩ = some (.int .i64 b) ∧ w'.cell? ⟨c8, 1, none⟩ = some (.int .i64 i) ∧ w'.cell? ⟨c8, 2, none⟩ = some (.int .i64 1) ∧ w'.cell? ⟨c8, 3, none⟩ = some (.int .i64 2) ∧ w'.cell? ⟨c8, 4, none⟩ = some (.int .i64 68) ∧ w'.cell? ⟨c8, 5, none⟩ = some (.int .i64 69) ∧ w'.cell? ⟨c8, 6, none⟩ = some (.int .i64 tb) ∧ w'.cell? ⟨c8, 7, none⟩ = some (.int .i64 dt)))
  obtain ⟨x0, x1, x2, x3, x4, x5, x6, x7⟩ := Hc8.out _ _ h4
  have kE := Hen.out _ _ tb dt h4
  go_upto_region 5 with (go_at_call 27; (with_reducible refine kE.mono ?_); rintro e w3 ⟨v3, rfl, hs3⟩; obtain ⟨a2, c2, rfl, _, _⟩ := Sl.valn hs3 (m := 512) (by rw [bvs_len]; exact Hle.out))
  have h5 := PutsR.one (hs3.alloc (.cells #[.int .i64 0, .slice a2 512 c2] 73))
  generalize w3.alloc (.cells #[.int .i64 0, .slice a2 512 c2] 73) = w4 at h5 ⊢
  generalize w3.heap.size = pb at h5 ⊢
  clear hs3 kE x0 x1 x2 x3 x4 x5 x6 x7 h4
  have hd := sat_drew.2 h5
  refine GoE.start (fun w' => w'.cell? ⟨c8, 4, none⟩ = some (.int .i64 68)) 10 11 rfl (by kernel_rfl) ?_
  generalize w4.drew = w5 at hd ⊢
  have S0 : w5.cell? ⟨c8, 4, none⟩ = some (.int .i64 68) := (Hc8.out _ _ (hd.pull 1)).2.2.2.2.1
  have kB := bits1_ok (P := imP i) (cs := #[.pointer (some ⟨c4, 0, none⟩)]) cno1 (fun j _ w' h' => by exact clo1_ok (SatL.cell (h'.pull 3 : SatL w' (cl c4 _ _ :: _)) (i := 0) rfl)) hd
  clear h5
  refine GoE.take (i := 0) (v := ?_) rfl (by decide) (by kernel_rfl) (by kernel_rfl) (by kernel_rfl) (by kernel_rfl) (fun _ _ _ h => h) (by rfl) ?_ (by assumption) ?_
  rotate_left
  · intro w hSw; (try dsimp only at hSw); go_simp; try (with_reducible rfl)
  try simp only [Act.put, List.setIfInBounds_toArray, List.set_cons_zero, List.set_cons_succ]
  refine GoE.take (i := 1) (v := ?_) rfl (by decide) (by kernel_rfl) (by kernel_rfl) (by kernel_rfl) (by kernel_rfl) (fun _ _ _ h => h) (by rfl) ?_ (by assumption) ?_
  rotate_left
  · intro w hSw; (try dsimp only at hSw); go_simp; try (with_reducible rfl)
  try simp only [Act.put, List.setIfInBounds_toArray, List.set_cons_zero, List.set_cons_succ]
  refine GoE.take (i := 2) (v := ?_) rfl (by decide) (by kernel_rfl) (by kernel_rfl) (by kernel_rfl) (by kernel_rfl) (fun _ _ _ h => h) (by rfl) ?_ (by assumption) ?_
  rotate_left
  · intro w hSw; (try dsimp only at hSw); go_simp; try (with_reducible rfl)
  try simp only [Act.put, List.setIfInBounds_toArray, List.set_cons_zero, List.set_cons_succ]
  refine GoE.take (i := 3) (v := ?_) rfl (by decide) (by kernel_rfl) (by kernel_rfl) (by kernel_rfl) (by kernel_rfl) (fun _ _ _ h => h) (by rfl) ?_ (by assumption) ?_
  rotate_left
  · intro w hSw; (try dsimp only at hSw); go_simp; try (with_reducible rfl)
  try simp only [Act.put, List.setIfInBounds_toArray, List.set_cons_zero, List.set_cons_succ]
  refine GoE.one (i := 4) rfl (by kernel_rfl) (fun K hK => ?_)
  go_simp
  go_at_call 48
  (with_reducible refine kB.mono ?_)
  rintro e w6 ⟨v6, rfl, ra, rc, bb, bo, cc, rfl, h6⟩
  go_wp2_with fail
  have S1 : w6.cell? ⟨c8, 4, none⟩ = some (.int .i64 68) := (Hc8.out _ _ (h6.pull 3)).2.2.2.2.1
  have S2 : w6.cell? ⟨c8, 4, none⟩ = some (.int .i64 68) ∧ w6.cell? ⟨bb, bo, none⟩ = some (.slice ra 512 rc) := ⟨S1, by have := Sl.cell h6 (i := 0) (x := .slice ra 512 rc) rfl; rwa [Nat.add_zero] at this⟩
  refine hK.out _ _ (fun _ => S1) ?_
  clear hK K kB S0 S1 hd
  try simp only [Act.put, List.setIfInBounds_toArray, List.set_cons_zero, List.set_cons_succ]
  refine GoE.more (fun w' => w'.cell? ⟨c8, 4, none⟩ = some (.int .i64 68) ∧ w'.cell? ⟨bb, bo, none⟩ = some (.slice ra 512 rc)) (fun _ h => h.1) ?_
  refine GoE.take (i := 5) (v := ?_) rfl (by decide) (by kernel_rfl) (by kernel_rfl) (by kernel_rfl) (by kernel_rfl) (fun _ _ _ h => h) (by rfl) ?_ (by assumption) ?_
  rotate_left
  · intro w hSw; (try dsimp only at hSw); go_simp; try (with_reducible rfl)
  try simp only [Act.put, List.setIfInBounds_toArray, List.set_cons_zero, List.set_cons_succ]
  refine GoE.take (i := 6) (v := ?_) rfl (by decide) (by kernel_rfl) (by kernel_rfl) (by kernel_rfl) (by kernel_rfl) (fun _ _ _ h => h) (by rfl) ?_ (by assumption) ?_
  rotate_left
  · intro w hSw; (try dsimp only at hSw); go_simp; try (with_reducible rfl)
  try simp only [Act.put, List.setIfInBounds_toArray, List.set_cons_zero, List.set_cons_succ]
  refine GoE.take (i := 7) (v := ?_) rfl (by decide) (by kernel_rfl) (by kernel_rfl) (by kernel_rfl) (by kernel_rfl) (fun _ _ _ h => h) (by rfl) ?_ (by assumption) ?_
  rotate_left
  · intro w hSw; (try dsimp only at hSw); go_simp; try (with_reducible rfl)
  try simp only [Act.put, List.setIfInBounds_toArray, List.set_cons_zero, List.set_cons_succ]
  have h7 := h6.alloc (.cells #[.int .i64 68, .slice ra 512 rc] 73)
  have S3 : (w6.alloc (.cells #[.int .i64 68, .slice ra 512 rc] 73)).cell? ⟨c8, 4, none⟩ = some (.int .i64 68) ∧ (w6.alloc (.cells #[.int .i64 68, .slice ra 512 rc] 73)).cell? ⟨bb, bo, none⟩ = some (.slice ra 512 rc) := ⟨(Hc8.out _ _ (h7.pull 4)).2.2.2.2.1, by have := Sl.cell (h7.pull 1) (i := 0) (x := .slice ra 512 rc) rfl; rwa [Nat.add_zero] at this⟩
  refine GoE.one (i := 8) rfl (by kernel_rfl) (fun K hK => ?_)
  go_simp
  refine hK.out _ _ (fun _ => S3) ?_
  clear hK K S2 S3 h7
  try simp only [Act.put, List.setIfInBounds_toArray, List.set_cons_zero, List.set_cons_succ]
  have b32 : 0 < 32 := by omega
  have hpr := sat_PutsR.1 (h6.pull 2)
  refine GoE.one (i := 9) rfl (by kernel_rfl) (fun K hK => ?_)
  refine step_pushK_sl (nb := w6.heap.size) rfl rfl (.tmp 28) (.tmp 36) rfl elem_put b32 rfl hpr rfl rfl (by simp [Value.oneCell']) (by simp) ?_
  intro v8 w8 h8
  have h9 : SatL w8 (PutsR v8 ([⟨0, .slice a2 512 c2, EB⟩] ++ [⟨68, .slice ra 512 rc, bitsN 512 (imP i)⟩]) :: Sl 23 (.slice (some ⟨bb, bo, none⟩) 1 cc) [.slice ra 512 rc] :: _) := PutsL.snoc (h8.bring [0, 1, 3])
  obtain ⟨va, vc, rfl, _, _⟩ : ∃ a c, v8 = .slice a 2 c ∧ 2 ≤ c ∧ c ≤ 9223372036854775807 := by
    obtain ⟨a, c, e, h1, h2⟩ := SlK.valn (sat_PutsR.1 h9)
    exact ⟨a, c, e, h1, h2⟩
  have S4 : w8.cell? ⟨c8, 4, none⟩ = some (.int .i64 68) ∧ w8.cell? ⟨bb, bo, none⟩ = some (.slice ra 512 rc) := ⟨(Hc8.out _ _ (h9.pull 2)).2.2.2.2.1, by have := Sl.cell (h9.pull 1) (i := 0) (x := .slice ra 512 rc) rfl; rwa [Nat.add_zero] at this⟩
  refine hK.out _ _ (fun _ => S4) ?_
  clear hK K S4 h8 hpr h6
  try simp only [Act.put, List.setIfInBounds_toArray, List.set_cons_zero, List.set_cons_succ]
  refine GoE.one (i := 10) rfl (by kernel_rfl) (fun K hK => ?_)
  go_simp
  refine hK.out _ _ (fun h => absurd rfl h) ?_
  clear hK K
  try simp only [Act.put, List.setIfInBounds_toArray, List.set_cons_zero, List.set_cons_succ]
  refine GoE.done (by kernel_rfl) ?_
  have h10 := (h9.swap).tail
  clear h9
  obtain ⟨ps0, hps0⟩ : ∃ ps0, ([⟨0, .slice a2 512 c2, EB⟩] ++ [⟨68, .slice ra 512 rc, bitsN 512 (imP i)⟩] : List Pt) = ps0 := ⟨_, rfl⟩
  have hp0 : ps0.map (fun p => (p.b, p.d)) = [(0, EB), (68, bitsN 512 (imP i))] := by rw [← hps0]; rfl
  have hpl0 : ps0.length = 2 := by rw [← hps0]; rfl
  rw [hps0] at h10
  clear hps0
  go_upto_region 6 with fail
  have h11 : SatL w8 (PutsR (.slice va 2 vc) ps0 :: cl c8 30 #[.int .i64 b, .int .i64 i, .int .i64 1, .int .i64 2, .int .i64 68, .int .i64 69, .int .i64 tb, .int .i64 dt] :: cl c5 43 #[.int .u32 sec, .int .u32 nsec] :: cl c4 3 #[.int .i64 i] :: cl c3 3 #[.int .i64 b] :: L) := h10
  have x5 := (Hc8.out _ _ (h11.pull 1)).2.2.2.2.2.1
  have x6 := (Hc8.out _ _ (h11.pull 1)).2.2.2.2.2.2.1
  have hqb : q ≤ 1000 := by have := Hqt.out; omega
  have tq : (tb : Int) - 69 = (q : Int) := by have := Hqt.out; omega
  have tqw : IntKind.i64.wrap (q : Int) = (q : Int) := IntWalk.i64_in _ (by omega)
  have kB2 := bits_ok (n := q) (P := bmA b dt) (cs := #[.pointer (some ⟨c8, 0, none⟩), .pointer (some ⟨c3, 0, none⟩)]) hqb cno2 (fun j _ w' h' => by exact clo2_ok (Hc8.out _ _ (h'.pull 1)).2.2.2.2.2.2.2 (SatL.cell (h'.pull 4 : SatL w' (cl c3 _ _ :: _)) (i := 0) rfl)) h11
  obtain ⟨rl, hrl⟩ : ∃ rl, rl = q := ⟨_, rfl⟩
  have Hrl := hid hrl
  clear h10 h11 hrl
  go_wp2_with (first
    | (go_at_call 48; (with_reducible refine kB2.mono ?_); rintro e w9 ⟨rv, rfl, h12⟩; obtain ⟨rs, hrs, h13⟩ := sat_RowsM.1 h12; have h14 := sat_RowsS.1 h13; have hrl2 : rs.length = q := (by have := bitRows_len q (bmA b dt); rw [← hrs, List.length_map] at this; exact this); obtain ⟨rva, rvc, rfl, _, _⟩ := Sl.valn h14 (m := q) (by rw [List.length_map]; exact hrl2); clear h12 h13 kB2))
  clear x5 x6 tq tqw
  have hgl : ∀ (k : Nat) (hk0 : k < rs.length) (hk : k < q), rs[k].d = bitsN 512 (bmP b dt k) := by
    intro k hk0 hk
    have h1 := congrArg (fun l => l[k]?) hrs
    simp only [List.getElem?_map, List.getElem?_eq_getElem (show k < rs.length by omega), Option.map_some] at h1
    unfold bitRows at h1
    simp only [List.getElem?_map, List.getElem?_range hk, Option.map_some, Option.some.injEq] at h1
    exact h1
  have Hgl := hid hgl
  have Hrl2 := hid hrl2
  have h15 : SatL w9 (Sl 23 (.slice rva q rvc) (rs.map (·.v)) :: big (fun r : RwS => SlB 5 r.v r.d) (rs.drop 0) :: PutsR (.slice va 2 vc) ps0 :: cl c8 30 #[.int .i64 b, .int .i64 i, .int .i64 1, .int .i64 2, .int .i64 68, .int .i64 69, .int .i64 tb, .int .i64 dt] :: cl c5 43 #[.int .u32 sec, .int .u32 nsec] :: cl c4 3 #[.int .i64 i] :: cl c3 3 #[.int .i64 b] :: L) := h14
  clear h14 hrs hgl hrl2
  go_loopw [10, 46] (fun o ii wr => ∃ (k : Nat) (ps : List Pt), k ≤ q ∧ ii = .int .i64 (k : Int) ∧ ps.length ≤ 2 + k ∧ Hid (ps.map (fun p => (p.b, p.d)) = [(0, EB), (68, bitsN 512 (imP i))] ++ bmList b dt k) ∧ SatL wr (Sl 23 (.slice rva q rvc) (rs.map (·.v)) :: big (fun r : RwS => SlB 5 r.v r.d) (rs.drop k) :: PutsR o ps :: cl c8 30 #[.int .i64 b, .int .i64 i, .int .i64 1, .int .i64 2, .int .i64 68, .int .i64 69, .int .i64 tb, .int .i64 dt] :: cl c5 43 #[.int .u32 sec, .int .u32 nsec] :: cl c4 3 #[.int .i64 i] :: cl c3 3 #[.int .i64 b] :: L)) (fun _ ii _ => q - (intOf ii).toNat)
  case atStart => exact ⟨0, ps0, by omega, rfl, by omega, hid (by rw [hp0]; simp [bmList]), h15⟩
  case round =>
    clear h15 hp0 hpl0
    obtain ⟨k, ps, hk, rfl, hpl, Hps, hs⟩ := hrel
    by_cases hlt : k < q
    · have hkr : k < rs.length := by rw [Hrl2.out]; exact hlt
      have hkz : (k : Int) < q := by omega
      obtain ⟨vb, vo, rfl⟩ := Sl.addr hs (by omega)
      have hrow := Hgl.out k hkr hlt
      have ck := Sl.cell hs (i := k) (x := rs[k].v) (by rw [List.getElem?_map, List.getElem?_eq_getElem hkr]; rfl)
      rw [List.drop_eq_getElem_cons hkr] at hs
      have h2 := big_cons.1 (hs.pull 1)
      obtain ⟨r, hr⟩ : ∃ r, rs[k] = r := ⟨_, rfl⟩
      rw [hr] at hrow ck h2
      obtain ⟨rv, rd⟩ := r
      dsimp only at hrow ck h2
      subst hrow
      obtain ⟨ya, yc, rfl, _, _⟩ := Sl.valn h2 (m := 512) (by rw [bvs_len, bitsN_len])
      have kA := any_ok (SlB.rd h2)
      rw [bits_any] at kA
      have h3 := h2.pull 3
      have Hr := hid hr
      have x5 := (Hc8.out _ _ (h2.pull 4)).2.2.2.2.2.1
      obtain ⟨pn, hpn⟩ : ∃ pn, ps.length = pn := ⟨_, rfl⟩
      obtain ⟨oa, oc, rfl, _, _⟩ : ∃ a c, u10 = .slice a pn c ∧ pn ≤ c ∧ c ≤ 9223372036854775807 := by
        obtain ⟨a, c, e, h1, h2⟩ := SlK.valn (sat_PutsR.1 h3)
        rw [hpn] at e h1
        exact ⟨a, c, e, h1, h2⟩
      have b32 : 0 < 32 := by omega
      have hbq : (ps.length + 1) * 32 ≤ 140737488355328 := by omega
      have hgl69 : (69 : Int) + (k : Int) = ((69 + k : Nat) : Int) := by omega
      obtain ⟨gb, hgb⟩ : ∃ gb, gb = 69 + k := ⟨_, rfl⟩
      have tg : (69 : Int) + (k : Int) = (gb : Int) := by omega
      have tgw : IntKind.i64.wrap (gb : Int) = (gb : Int) := IntWalk.i64_in _ (by omega)
      have Hgb := hid hgb
      clear hs hr hgl69 hgb hpn
      cases hany : anyN (8 * 512) (bmP b dt k) with
      | false =>
        rw [hany] at kA
        have Hm := hid (show bmList b dt (k + 1) = bmList b dt k by rw [bmList_succ, show anyN 4096 (bmP b dt k) = false from hany]; simp)
        have H4 := hid h2.tail
        clear h2 h3 hany
        go_wp2_with (go_at_call 51; (with_reducible refine kA.mono ?_); rintro e w10 ⟨rfl, rfl⟩)
        go_roundw
        case rel => exact ⟨k + 1, ps, by omega, by go_num, by omega, hid (by rw [Hm.out]; exact Hps.out), H4.out.swap⟩
        case measure => simp [intOf]; omega
      | true =>
        rw [hany] at kA
        have Hm := hid (show bmList b dt (k + 1) = bmList b dt k ++ [(((69 + k : Nat) : Int), bitsN 512 (bmP b dt k))] by rw [bmList_succ, show anyN 4096 (bmP b dt k) = true from hany]; simp)
        have h4 := sat_PutsR.1 h3
        have H4 := hid h4
        clear h2 h3 hany h4
        go_wp2_with (first
          | (go_at_call 51; (with_reducible refine kA.mono ?_); rintro e w10 ⟨rfl, rfl⟩)
          | (refine wpList_pushK_sl (nb := wr.heap.size) (w := wr) rfl rfl (.tmp 53) (.tmp 60) rfl elem_put b32 rfl H4.out rfl rfl (by simp [Value.oneCell']) hbq ?_; intro v11 w11 h11))
        have h12 := PutsL.snoc h11
        go_roundw
        case rel => exact ⟨k + 1, ps ++ [Pt.mk (gb : Int) (.slice ya 512 yc) (bitsN 512 (bmP b dt k))], by omega, by go_num, by rw [List.length_append]; simp; omega, hid (by rw [List.map_append, Hps.out, Hm.out, Hgb.out]; simp only [List.map_cons, List.map_nil, List.append_assoc]), h12.bring [2, 1]⟩
        case measure => simp [intOf]; omega
    · have hkq : k = q := by omega
      subst hkq
      have h2 := hs.tail.tail
      have HQ := hid hpl
      clear hs Hgl hpl
      go_upto_region 13 with (refine wpList_make_sl rfl (.const (.int .i64 512)) (.const (.int .i64 512)) rfl elem_byte 512 rfl rfl h2 (by omega) (by omega) ?_; intro w13 hs3)
      have h3 : SatL w13 (SlB 5 (.slice (some ⟨wr.heap.size, 0, none⟩) 512 512) (List.replicate 512 0) :: PutsR u10 ps :: cl c8 30 #[.int .i64 b, .int .i64 i, .int .i64 1, .int .i64 2, .int .i64 68, .int .i64 69, .int .i64 tb, .int .i64 dt] :: cl c5 43 #[.int .u32 sec, .int .u32 nsec] :: cl c4 3 #[.int .i64 i] :: cl c3 3 #[.int .i64 b] :: L) := by
        unfold SlB
        rw [bvs_zeros]
        exact hs3
      generalize wr.heap.size = tbk at h3 ⊢
      clear hs3 h2
      have hd := sat_drew.2 h3
      refine GoE.start (fun w' => w'.cell? ⟨c8, 0, none⟩ = some (.int .i64 b) ∧ w'.cell? ⟨c8, 1, none⟩ = some (.int .i64 i) ∧ w'.cell? ⟨c8, 2, none⟩ = some (.int .i64 1) ∧ w'.cell? ⟨c8, 3, none⟩ = some (.int .i64 2) ∧ w'.cell? ⟨c8, 4, none⟩ = some (.int .i64 68) ∧ w'.cell? ⟨c8, 5, none⟩ = some (.int .i64 69) ∧ w'.cell? ⟨c8, 6, none⟩ = some (.int .i64 tb) ∧ w'.cell? ⟨c8, 7, none⟩ = some (.int .i64 dt) ∧ w'.cell? ⟨c5, 0, none⟩ = some (.int .u32 sec) ∧ w'.cell? ⟨c5, 1, none⟩ = some (.int .u32 nsec)) 5 6 rfl (by kernel_rfl) ?_
      generalize w13.drew = w14 at hd ⊢
      have hS := hid (fun (w' : World) (X : List HP) (h : SatL w' (cl c8 30 #[.int .i64 b, .int .i64 i, .int .i64 1, .int .i64 2, .int .i64 68, .int .i64 69, .int .i64 tb, .int .i64 dt] :: cl c5 43 #[.int .u32 sec, .int .u32 nsec] :: X)) => (⟨(Hc8.out _ _ h).1, (Hc8.out _ _ h).2.1, (Hc8.out _ _ h).2.2.1, (Hc8.out _ _ h).2.2.2.1, (Hc8.out _ _ h).2.2.2.2.1, (Hc8.out _ _ h).2.2.2.2.2.1, (Hc8.out _ _ h).2.2.2.2.2.2.1, (Hc8.out _ _ h).2.2.2.2.2.2.2, (h.pull 1 : SatL w' (cl _ _ _ :: _)).cell (i := 0) rfl, (h.pull 1 : SatL w' (cl _ _ _ :: _)).cell (i := 1) rfl⟩ :
        w'.cell? ⟨c8, 0, none⟩ = some (.int .i64 b) ∧ w'.cell? ⟨c8, 1, none⟩ = some (.int .i64 i) ∧ w'.cell? ⟨c8, 2, none⟩ = some (.int .i64 1) ∧ w'.cell? ⟨c8, 3, none⟩ = some (.int .i64 2) ∧ w'.cell? ⟨c8, 4, none⟩ = some (.int .i64 68) ∧ w'.cell? ⟨c8, 5, none⟩ = some (.int .i64 69) ∧ w'.cell? ⟨c8, 6, none⟩ = some (.int .i64 tb) ∧ w'.cell? ⟨c8, 7, none⟩ = some (.int .i64 dt) ∧ w'.cell? ⟨c5, 0, none⟩ = some (.int .u32 sec) ∧ w'.cell? ⟨c5, 1, none⟩ = some (.int .u32 nsec)))
      have S0 := hS.out _ _ (hd.bring [2, 3])
      have kR : Calls Try.prog 52 #[.agg #[.int .i64 b, .int .i64 i, .int .i64 1, .int .i64 2, .int .i64 68, .int .i64 69, .int .i64 tb, .int .i64 dt], .agg #[.int .u32 sec, .int .u32 nsec]] w14 _ := proot_ok (d := dt) (by omega) hse hns (b : Int) (i : Int) (tb : Int) hd
      clear h3
      refine GoE.take (i := 0) (v := ?_) rfl (by decide) (by kernel_rfl) (by kernel_rfl) (by kernel_rfl) (by kernel_rfl) (fun _ _ _ h => h) (by rfl) ?_ (by assumption) ?_
      rotate_left
      · intro w hSw; (try dsimp only at hSw); go_simp; try (with_reducible rfl)
      try simp only [Act.put, List.setIfInBounds_toArray, List.set_cons_zero, List.set_cons_succ]
      refine GoE.take (i := 1) (v := ?_) rfl (by decide) (by kernel_rfl) (by kernel_rfl) (by kernel_rfl) (by kernel_rfl) (fun _ _ _ h => h) (by rfl) ?_ (by assumption) ?_
      rotate_left
      · intro w hSw; (try dsimp only at hSw); go_simp; try (with_reducible rfl)
      try simp only [Act.put, List.setIfInBounds_toArray, List.set_cons_zero, List.set_cons_succ]
      refine GoE.take (i := 2) (v := ?_) rfl (by decide) (by kernel_rfl) (by kernel_rfl) (by kernel_rfl) (by kernel_rfl) (fun _ _ _ h => h) (by rfl) ?_ (by assumption) ?_
      rotate_left
      · intro w hSw; (try dsimp only at hSw); go_simp; try (with_reducible rfl)
      try simp only [Act.put, List.setIfInBounds_toArray, List.set_cons_zero, List.set_cons_succ]
      refine GoE.take (i := 3) (v := ?_) rfl (by decide) (by kernel_rfl) (by kernel_rfl) (by kernel_rfl) (by kernel_rfl) (fun _ _ _ h => h) (by rfl) ?_ (by assumption) ?_
      rotate_left
      · intro w hSw; (try dsimp only at hSw); go_simp; try (with_reducible rfl)
      try simp only [Act.put, List.setIfInBounds_toArray, List.set_cons_zero, List.set_cons_succ]
      refine GoE.one (i := 4) rfl (by kernel_rfl) (fun K hK => ?_)
      go_simp
      go_at_call 52
      (with_reducible refine kR.mono ?_)
      rintro e w15 ⟨v15, rfl, h15⟩
      obtain ⟨ra2, rc2, rfl, _, _⟩ := Sl.valn h15 (m := 128) (by rw [bvs_len, rootB_len])
      go_wp2_with fail
      have S1 := hS.out _ _ (h15.bring [3, 4])
      refine hK.out _ _ (fun _ => S1) ?_
      clear hK K kR S0 hd
      try simp only [Act.put, List.setIfInBounds_toArray, List.set_cons_zero, List.set_cons_succ]
      have hx := SrcOk.ofRdB (SlB.rd h15)
      rw [rootB_len] at hx
      refine GoE.one (i := 5) rfl (by kernel_rfl) (fun K hK => ?_)
      refine step_copyV (b := tbk) (off := 0) (i := 128) (n := 512) (cap := 512) rfl (.tmp 65) (.tmp 68) rfl elem_byte rfl (h15.pull 1) rfl hx (bvs_one _) (by omega) (by omega) ?_
      intro w16 h16
      refine hK.out _ _ (fun h => absurd rfl h) ?_
      clear hK K hx S1 h15
      try simp only [Act.put, List.setIfInBounds_toArray, List.set_cons_zero, List.set_cons_succ]
      refine GoE.done (by kernel_rfl) ?_
      have h17 : SatL w16 (SlB 5 (.slice (some ⟨tbk, 0, none⟩) 512 512) (tableB dt sec nsec) :: SlB 5 (.slice ra2 128 rc2) (rootB dt sec nsec) :: PutsR u10 ps :: cl c8 30 #[.int .i64 b, .int .i64 i, .int .i64 1, .int .i64 2, .int .i64 68, .int .i64 69, .int .i64 tb, .int .i64 dt] :: cl c5 43 #[.int .u32 sec, .int .u32 nsec] :: cl c4 3 #[.int .i64 i] :: cl c3 3 #[.int .i64 b] :: L) := by
        have := h16
        rw [show 128 + 128 = 256 from rfl, table_eq] at this
        exact this
      have h18 := (h17.pull 1).tail
      clear h16 h17
      go_upto_region 15 with (refine wpList_make_sl rfl (.const (.int .i64 512)) (.const (.int .i64 512)) rfl elem_byte 512 rfl rfl h18 (by omega) (by omega) ?_; intro w17 hs17)
      have h19 : SatL w17 (SlB 5 (.slice (some ⟨w16.heap.size, 0, none⟩) 512 512) (List.replicate 512 0) :: SlB 5 (.slice (some ⟨tbk, 0, none⟩) 512 512) (tableB dt sec nsec) :: PutsR u10 ps :: cl c8 30 #[.int .i64 b, .int .i64 i, .int .i64 1, .int .i64 2, .int .i64 68, .int .i64 69, .int .i64 tb, .int .i64 dt] :: cl c5 43 #[.int .u32 sec, .int .u32 nsec] :: cl c4 3 #[.int .i64 i] :: cl c3 3 #[.int .i64 b] :: L) := by
        unfold SlB
        rw [bvs_zeros]
        exact hs17
      generalize w16.heap.size = lbk at h19 ⊢
      clear hs17 h18
      have kl1 : Calls Try.prog 53 #[.int .i64 1, .string { data := #[46] }] w17 (Ret fun v w' => SatL w' (SlB 5 v (entryB [46]) :: _)) := line_ok (s := { data := #[46] }) (by decide) h19
      clear h19
      have hl64 : (bvs (entryB [46] ++ entryB [46, 46])).length = 64 := ee_len
      go_upto_region 16 with (first
        | (go_at_call 53; (with_reducible refine kl1.mono ?_); rintro e w18 ⟨v18, rfl, h20⟩; obtain ⟨l1a, l1c, rfl, _, _⟩ := Sl.valn h20 (m := 32) (by rw [bvs_len, entryB_len1]); have kl2 : Calls Try.prog 53 #[.int .i64 1, .string { data := #[46, 46] }] w18 (Ret fun v w' => SatL w' (SlB 5 v (entryB [46, 46]) :: _)) := line_ok (s := { data := #[46, 46] }) (by decide) h20; clear kl1 h20)
        | (go_at_call 53; (with_reducible refine kl2.mono ?_); rintro e w19 ⟨v19, rfl, h21⟩; obtain ⟨l2a, l2c, rfl, _, _⟩ := Sl.valn h21 (m := 32) (by rw [bvs_len, entryB_len2]); clear kl2; have t0 : True := trivial)
        | (have _t := t0; at_builtin; refine wpList_append_sl rfl (.tmp 72) (.tmp 73) rfl elem_byte rfl (Sl.toK (SatL.swap h21) (by rw [bvs_len, entryB_len1])) rfl (SrcOk.ofK elem_byte.under (Sl.toK h21 (by rw [bvs_len, entryB_len2]))) (bvs_one _) (by omega) (by unfold maxLen; omega) ?_; intro v20 w20 h22 _; clear t0; have h23 := SlB.app (Sl.ofK h22); obtain ⟨a20, c20, rfl, _, _⟩ := Sl.valn h23 (m := 64) hl64; have hx : SrcOk Try.prog 23 1 w20 (.slice a20 64 c20) 64 (bvs (entryB [46] ++ entryB [46, 46])) := SrcOk.ofK elem_byte.under (Sl.toK h23 hl64); have t1 : True := trivial; clear h21 h22)
        | (have _t := t1; refine wpList_copy_sl (b := lbk) (off := 0) (i := 0) (n := 512) (cap := 512) rfl (.tmp 71) (.tmp 74) rfl elem_byte rfl (h23.pull 2) rfl hx (bvs_one _) (by omega) (by omega) ?_; intro w21 h24; clear t1 hx h23))
      have h25 : SatL w21 (SlB 5 (.slice (some ⟨lbk, 0, none⟩) 512 512) dirB :: SlB 5 (.slice a20 64 c20) (entryB [46] ++ entryB [46, 46]) :: SlB 5 (.slice l2a 32 l2c) (entryB [46, 46]) :: SlB 5 (.slice (some ⟨tbk, 0, none⟩) 512 512) (tableB dt sec nsec) :: PutsR u10 ps :: cl c8 30 #[.int .i64 b, .int .i64 i, .int .i64 1, .int .i64 2, .int .i64 68, .int .i64 69, .int .i64 tb, .int .i64 dt] :: cl c5 43 #[.int .u32 sec, .int .u32 nsec] :: cl c4 3 #[.int .i64 i] :: cl c3 3 #[.int .i64 b] :: L) := by
        have := h24
        rw [show 0 + 64 = 64 from rfl, dir_eq] at this
        exact this
      have h26 := (h25.pull 1).tail
      have h27 := ((h26.pull 1).tail).bring [2, 1, 0]
      have x6 := (Hc8.out _ _ (h27.pull 3)).2.2.2.2.2.2.1
      have x7 := (Hc8.out _ _ (h27.pull 3)).2.2.2.2.2.2.2
      have h28 := sat_PutsR.1 h27
      obtain ⟨ua, uc, rfl, _, _⟩ := SlK.valn h28
      have al := h28.alloc (.cells #[.int .i64 tb, .slice (some ⟨tbk, 0, none⟩) 512 512, .int .i64 dt, .slice (some ⟨lbk, 0, none⟩) 512 512] 73)
      have hbq : (ps.length + 2) * 32 ≤ 140737488355328 := by have := HQ.out; omega
      have h63 : ps.length + 2 ≤ maxLen := by unfold maxLen; have := HQ.out; omega
      have hx2 := SrcOk.ofCl (k := 2) (n := 2) elem_put.under al rfl 2
      have Al := hid al
      clear h24 h25 h26 h27 h28 al
      go_wp2_with (at_builtin; refine wpList_append_sl rfl (.tmp 76) (.tmp 85) rfl elem_put rfl Al.out.swap rfl hx2 (by simp [Value.oneCell']) hbq h63 ?_; intro v22 w22 h29 _)
      go_ret2
      have h30 := PutsR.snoc2 ((h29.pull 1).tail)
      have h31 := ((((h30.pull 1).tail.pull 1).tail.pull 1).tail.pull 1).tail
      refine Ret.mk ⟨v22, rfl, sat_PutsL.2 ⟨_, ?_, h31⟩⟩
      rw [List.map_append, Hps.out, show tb - 69 = k by have := Hqt.out; omega]
      rfl
end
end Go.Proofs.Ytgbaigbplaoeaaa
