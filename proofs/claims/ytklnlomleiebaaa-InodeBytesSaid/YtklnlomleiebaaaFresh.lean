/- Inodes, NewView, Over, Fresh. -/
import Derived.Test.YtklnlomleiebaaaGive
import Derived.Deep.MidRow
namespace Go.Proofs.Ytklnlomleiebaaa
set_option linter.unusedVariables false
set_option linter.unusedSimpArgs false
open Go.RowKit

section
variable {w : World} {L : List HP}
set_option maxRecDepth 100000 in
set_option maxHeartbeats 1000000 in
theorem inodes_any {X : List HP} {mb x : Nat} {rows : List (Option (List UInt8))} {lack : List Bool} {d : List UInt8} (h : SatL w (BaseR mb rows lack :: L)) (hX : SatL w X) (h0 : rows[0]? = some (some d)) (hd : d.length = 512) (hx : (d.getD 12 0).toNat + (d.getD 13 0).toNat * 256 = x) :
    Calls Try.prog 25 #[.pointer (some ⟨mb, 0, none⟩)] w (Ret fun v w' => v = .int .i64 x ∧ SatL w' X) := by
  have hlt : 0 < rows.length := (List.getElem?_eq_some_iff.1 h0).1
  obtain ⟨bv, lv, q, hq, h1⟩ := sat_BaseO.1 h
  have hql : (rvals q).length = rows.length := by rw [← hq]; simp
  obtain ⟨ba, bc, rfl, q1, q2⟩ := Sl.valn (h1.pull 1 : SatL w (Sl _ _ _ :: _)) hql
  obtain ⟨bb, bo, rfl⟩ := Sl.addr (h1.pull 1 : SatL w (Sl _ _ _ :: _)) (by omega)
  have c0 := h1.cell (i := 0) rfl
  obtain ⟨v, hqk⟩ : ∃ v, q[0]? = some ⟨v, some d⟩ := by
    rw [← hq, List.getElem?_map] at h0
    cases hqk : q[0]? with
    | none => rw [hqk] at h0; cases h0
    | some r =>
      rw [hqk] at h0
      obtain ⟨v, d'⟩ := r
      simp only [Option.map_some, Option.some.injEq] at h0
      subst h0
      exact ⟨v, rfl⟩
  have hv : (rvals q)[0]? = some v := by rw [List.getElem?_map, hqk]; rfl
  have h2 : SatL w (SlB 5 v d :: _) := (big_get hqk).1 (h1.pull 2 : SatL w (big RwP q :: _))
  obtain ⟨a, c, rfl, q5, q6⟩ := Sl.valn h2 (m := 512) (by rw [bvs_len, hd])
  obtain ⟨b, off, rfl⟩ := Sl.addr h2 (by omega)
  have rk := Sl.cell (h1.pull 1 : SatL w (Sl _ _ _ :: _)) hv
  rw [Nat.add_zero] at rk
  have b12 := SlB.cell (sat_drew.2 h2) (i := 12) (by omega)
  have b13 := SlB.cell (sat_drew.2 h2) (i := 13) (by omega)
  have u12 := u8_lt (d.getD 12 0)
  have u13 := u8_lt (d.getD 13 0)
  generalize (d.getD 12 0).toNat = y at *
  generalize (d.getD 13 0).toNat = z at *
  have e1 : (0 : Int) < rows.length := by omega
  generalize hN : rows.length = N at *
  have h9 := sat_drew.2 hX
  subst hx
  have e2 : ((y + z * 256 : Nat) : Int) = (y : Int) + (z : Int) * 256 := by omega
  rw [e2]
  clear h1 h2 hv hqk h0 hd hq hql h e2
  go_enter Try.func25, Try.ntmps25
  go_wp2
  go_region
  go_wp2
  go_ret
  exact Ret.mk ⟨rfl, h9⟩

theorem newView_ok {mb i tb dt : Nat} {rows : List (Option (List UInt8))} (h : SatL w (BaseR mb rows (List.replicate rows.length false) :: L)) :
    Calls Try.prog 26 #[.agg (planCells rows.length i tb dt), .iface 43 (.pointer (some ⟨mb, 0, none⟩))] w (Ret fun v w' => ∃ vb, v = .pointer (some ⟨vb, 0, none⟩) ∧ SatL w' (ViewR vb mb i tb dt rows (fun _ => none) :: L)) := by
  have hmm := @run_makeMap Try.prog
  have k1 := h.alloc (.cells (planCells rows.length i tb dt) 68)
  have k2 := MapO_nil (T := 5) (k1.allocN (n := w.heap.size + 1) (.map #[] 0) (by simp))
  have k3 := k2.allocN (n := w.heap.size + 1 + 1) (.cells (viewCells (w.heap.size + 1) mb rows.length i tb dt) 82) (by simp)
  have hfin : SatL _ (ViewR (w.heap.size + 1 + 1) mb i tb dt rows (fun _ => none) :: L) := sat_ViewR.2 ⟨w.heap.size + 1, SatL.tail (k3.bring [2, 0, 1, 3])⟩
  clear k1 k2 k3 h
  generalize hN : rows.length = N at *
  go_enter Try.func26, Try.ntmps26
  go_wp2
  go_ret
  exact Ret.mk ⟨w.heap.size + 1 + 1, rfl, hfin⟩

theorem enc_inodes {b i : Nat} (hi : i < 65536) : ((encB b i).getD 12 0).toNat + ((encB b i).getD 13 0).toNat * 256 = i := by
  have hR : ∀ R : List UInt8, lowb 4 i ++ R = byteOf i :: byteOf (i / 256) :: (lowb 2 (i / 256 / 256) ++ R) := fun _ => rfl
  have e : ∃ R, encB b i = (word8 ++ lowb 4 b) ++ (byteOf i :: byteOf (i / 256) :: R) := by
    unfold encB supBody supHead
    generalize crcN _ = C
    generalize List.replicate 492 (0 : UInt8) = Z
    refine ⟨lowb 2 (i / 256 / 256) ++ (Z ++ lowb 4 C), ?_⟩
    rw [List.append_assoc, List.append_assoc (word8 ++ lowb 4 b), hR]
  obtain ⟨R, e⟩ := e
  have hl : (word8 ++ lowb 4 b).length = 12 := by rw [List.length_append, lowb_len]; rfl
  have g1 : (encB b i).getD 12 0 = byteOf i := by
    rw [e, List.getD_eq_getElem?_getD, List.getElem?_append_right (by omega), hl]; rfl
  have g2 : (encB b i).getD 13 0 = byteOf (i / 256) := by
    rw [e, List.getD_eq_getElem?_getD, List.getElem?_append_right (by omega), hl]; rfl
  rw [g1, g2, byteOf_nat, byteOf_nat]
  omega
theorem vplan_good {b i : Nat} (hg : planGood b i) (he : planErr b i = 0) (h : SatL w L) : Calls Try.prog 24 #[.int .i64 b, .int .i64 i] w (Ret fun v w' => v = .tuple #[.agg (planCells b i (tableN b) (dataN b i)), .int .i64 0] ∧ SatL w' L) := by
  refine (plan_ok h b i).mono ?_
  rintro e w' ⟨v, rfl, hv, hs⟩
  obtain ⟨h1, h2, _⟩ := plan_nat hg he
  refine ⟨v, rfl, ?_, hs⟩
  rw [hv, he]
  unfold planSup
  rw [if_pos he, h1, h2]
  rfl
theorem sup_chain {sb T : Nat} {z0 z1 z2 z3 z4 z5 z6 z7 : Value} (x0 x1 x2 x3 x4 x5 x6 x7 : Value) (h : SatL w (cl sb T #[z0, z1, z2, z3, z4, z5, z6, z7] :: L)) :
    SatL (World.setCell (World.setCell (World.setCell (World.setCell (World.setCell (World.setCell (World.setCell (World.setCell w ⟨sb, 0, none⟩ x0) ⟨sb, 1, none⟩ x1) ⟨sb, 2, none⟩ x2) ⟨sb, 3, none⟩ x3) ⟨sb, 4, none⟩ x4) ⟨sb, 5, none⟩ x5) ⟨sb, 6, none⟩ x6) ⟨sb, 7, none⟩ x7) (cl sb T #[x0, x1, x2, x3, x4, x5, x6, x7] :: L) := by
  have s0 := h.set (i := 0) x0
  simp only [List.setIfInBounds_toArray, List.set_cons_zero, List.set_cons_succ] at s0
  have s1 := s0.set (i := 1) x1
  simp only [List.setIfInBounds_toArray, List.set_cons_zero, List.set_cons_succ] at s1
  have s2 := s1.set (i := 2) x2
  simp only [List.setIfInBounds_toArray, List.set_cons_zero, List.set_cons_succ] at s2
  have s3 := s2.set (i := 3) x3
  simp only [List.setIfInBounds_toArray, List.set_cons_zero, List.set_cons_succ] at s3
  have s4 := s3.set (i := 4) x4
  simp only [List.setIfInBounds_toArray, List.set_cons_zero, List.set_cons_succ] at s4
  have s5 := s4.set (i := 5) x5
  simp only [List.setIfInBounds_toArray, List.set_cons_zero, List.set_cons_succ] at s5
  have s6 := s5.set (i := 6) x6
  simp only [List.setIfInBounds_toArray, List.set_cons_zero, List.set_cons_succ] at s6
  have s7 := s6.set (i := 7) x7
  simp only [List.setIfInBounds_toArray, List.set_cons_zero, List.set_cons_succ] at s7
  exact s7
theorem sup_size : (Try.prog.info? 68).map (·.size) = some 8 := by kernel_rfl
abbrev sup0 : Array Value := #[.int .i64 0, .int .i64 0, .int .i64 0, .int .i64 0, .int .i64 0, .int .i64 0, .int .i64 0, .int .i64 0]
set_option maxRecDepth 100000 in
set_option maxHeartbeats 2000000 in
theorem over_ok {mb i : Nat} {rows : List (Option (List UInt8))} (h : SatL w (BaseR mb rows (List.replicate rows.length false) :: L)) (h0 : rows[0]? = some (some (encB rows.length i))) (hg : planGood rows.length i) (he : planErr rows.length i = 0) :
    Calls Try.prog 14 #[.pointer (some ⟨mb, 0, none⟩)] w (Ret fun v w' => ∃ vb, v = .pointer (some ⟨vb, 0, none⟩) ∧ SatL w' (ViewR vb mb i (tableN rows.length) (dataN rows.length i) rows (fun _ => none) :: L)) := by
  obtain ⟨bv, lv, hXw⟩ := sat_BaseR.1 h
  have hX := sat_drew.2 hXw
  have hi : i < 65536 := by obtain ⟨g1, g2, g3, g4, g5⟩ := hg; omega
  obtain ⟨a, c, rfl, q1, q2⟩ := RowsR.len (hX.pull 1 : SatL _ (RowsR _ _ :: _)) rfl
  have hin := fun (w : World) (X Y : List HP) (h : SatL w (BaseR mb rows (List.replicate rows.length false) :: X)) (hY : SatL w Y) => inodes_any h hY h0 (encB_len _ _) (enc_inodes hi)
  have hpl := fun (w : World) (X : List HP) (h : SatL w X) => vplan_good hg he h
  have hnv := fun (w : World) (X : List HP) (h : SatL w (BaseR mb rows (List.replicate rows.length false) :: X)) => newView_ok (i := i) (tb := tableN rows.length) (dt := dataN rows.length i) h
  have hA := sat_drew.2 h
  have hB := sat_drew.2 ((h.alloc (.cells sup0 68)).swap)
  have hXB := sat_drew.2 (hXw.alloc (.cells sup0 68))
  have c0 : w.drew.cell? ⟨mb, 0, none⟩ = some (.slice a rows.length c) := hX.cell (i := 0) rfl
  have cB : (w.alloc (.cells sup0 68)).drew.cell? ⟨mb, 0, none⟩ = some (.slice a rows.length c) := (hXB.pull 1 : SatL _ (cl _ _ _ :: _)).cell (i := 0) rfl
  clear hg he h0 h hXw
  generalize hT : tableN rows.length = tb at *
  generalize hD : dataN rows.length i = dt at *
  clear hT hD
  go_enter Try.func14, Try.ntmps14
  go_wp2
  go_region_held3 (fun w' => w'.cell? ⟨mb, 0, none⟩ = some (.slice a rows.length c))
    (first | with_reducible exact c0 | with_reducible exact cB | with_reducible exact m2 | with_reducible exact m2B | with_reducible exact m3 | with_reducible exact m3B | with_reducible exact m4 | go_keep)
    (first
      | (go_at_call 25; first
          | ((with_reducible refine (hin _ _ _ hA hX).mono ?_); rintro e w2 ⟨v2, rfl, rfl, hC⟩; have hE := (hC.alloc (.cells sup0 68)); have m2 : w2.cell? ⟨mb, 0, none⟩ = some (.slice a rows.length c) := hC.cell (i := 0) rfl; have m2B : (w2.alloc (.cells sup0 68)).cell? ⟨mb, 0, none⟩ = some (.slice a rows.length c) := (hE.pull 1 : SatL _ (cl _ _ _ :: _)).cell (i := 0) rfl)
          | ((with_reducible refine (hin _ _ _ hB hXB).mono ?_); rintro e w2 ⟨v2, rfl, rfl, hE⟩; have m2 : w2.cell? ⟨mb, 0, none⟩ = some (.slice a rows.length c) := (hE.pull 1 : SatL _ (cl _ _ _ :: _)).cell (i := 0) rfl))
      | (go_at_call 24; first
          | ((with_reducible refine (hpl _ _ hC).mono ?_); rintro e w3 ⟨v3, rfl, rfl, hF⟩; have hH := (hF.alloc (.cells sup0 68)); have hG := (hF.alloc (.cells (planCells rows.length i tb dt) 68)); have m3 : w3.cell? ⟨mb, 0, none⟩ = some (.slice a rows.length c) := hF.cell (i := 0) rfl; have m3B : (w3.alloc (.cells sup0 68)).cell? ⟨mb, 0, none⟩ = some (.slice a rows.length c) := (hH.pull 1 : SatL _ (cl _ _ _ :: _)).cell (i := 0) rfl; have m4 : (w3.alloc (.cells (planCells rows.length i tb dt) 68)).cell? ⟨mb, 0, none⟩ = some (.slice a rows.length c) := (hG.pull 1 : SatL _ (cl _ _ _ :: _)).cell (i := 0) rfl)
          | ((with_reducible refine (hpl _ _ hE).mono ?_); rintro e w3 ⟨v3, rfl, rfl, hH⟩; have m3 : w3.cell? ⟨mb, 0, none⟩ = some (.slice a rows.length c) := (hH.pull 1 : SatL _ (cl _ _ _ :: _)).cell (i := 0) rfl; have hG := sup_chain (.int .i64 rows.length) (.int .i64 i) (.int .i64 1) (.int .i64 2) (.int .i64 68) (.int .i64 69) (.int .i64 tb) (.int .i64 dt) hH; have m4 := (hG.pull 1 : SatL _ (cl _ _ _ :: _)).cell (i := 0) (v := .slice a rows.length c) rfl; have z0 := SatL.cell hH (i := 0) rfl; have f0 := SatL.free hH 0; have z1 := SatL.cell hH (i := 1) rfl; have f1 := SatL.free hH 1; have z2 := SatL.cell hH (i := 2) rfl; have f2 := SatL.free hH 2; have z3 := SatL.cell hH (i := 3) rfl; have f3 := SatL.free hH 3; have z4 := SatL.cell hH (i := 4) rfl; have f4 := SatL.free hH 4; have z5 := SatL.cell hH (i := 5) rfl; have f5 := SatL.free hH 5; have z6 := SatL.cell hH (i := 6) rfl; have f6 := SatL.free hH 6; have z7 := SatL.cell hH (i := 7) rfl; have f7 := SatL.free hH 7)))
  all_goals
    have hQ := sat_BaseR.2 ⟨_, _, SatL.bring hG [1, 2, 3, 0]⟩
    go_wp2_with (go_at_call 26; (with_reducible refine (hnv _ _ hQ).mono ?_); rintro e w5 ⟨v5, rfl, vb, rfl, hK⟩)
    go_ret
    exact Ret.mk ⟨vb, rfl, SatL.tail hK.swap⟩
end
end Go.Proofs.Ytklnlomleiebaaa
