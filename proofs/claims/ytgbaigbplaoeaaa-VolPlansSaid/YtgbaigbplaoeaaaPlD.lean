/- samePuts of rows that are alike; Mkfs of both where there is no plan; Decode of both at other lengths. No condition. -/
import Derived.Test.YtgbaigbplaoeaaaPlC
namespace Go.Proofs.Ytgbaigbplaoeaaa
set_option linter.unusedVariables false
set_option linter.unusedSimpArgs false
open Go.RowKit
theorem RdB.conv {w : World} {v : Value} {l : List UInt8} (h : RdB v l w) : (convert 23 9 v).run Try.prog w = .ok (.string ⟨l.toArray⟩) w := by
  rcases h with ⟨rfl, rfl⟩ | ⟨b, off, c, rfl, h1, h2, h3⟩
  · rw [run_convert_bytes_string w 23 9 5 none 0 0 Try.underlying23 Try.underlying5 (by kernel_rfl)]
    rfl
  · exact run_convert_bytes_back (P := Try.prog) w 23 9 5 ⟨b, off, none⟩ c l Try.underlying23 Try.underlying5 (by kernel_rfl) (by
      intro j hj
      rw [addr_add, h3 j hj]
      congr 3
      rw [List.getD_eq_getElem?_getD, List.getElem?_eq_getElem hj]
      rfl)
theorem sat_drewN {w : World} {L : List HP} (n : Nat) : SatL (w.drewN n) L ↔ SatL w L := Iff.rfl
theorem RdB.drewN {v : Value} {l : List UInt8} {w : World} (h : RdB v l w) (m : Nat) : RdB v l (w.drewN m) := h
section
variable {w : World} {L : List HP}
theorem PutsR.rowB {lv : Value} {ps : List Pt} {p : Pt} (h : SatL w (PutsR lv ps :: L)) (hp : p ∈ ps) : RdB p.v p.d w := by
  obtain ⟨a, b, rfl⟩ := List.append_of_mem hp
  have h2 := big_mid.1 (sat_PutsR.1 h).swap
  have h3 : SatL w (SlB 5 p.v p.d :: _) := h2
  exact SlB.rd h3
theorem PutsR.pair {b off c j : Nat} {ps : List Pt} {p : Pt} (h : SatL w (PutsR (.slice (some ⟨b, off, none⟩) ps.length c) ps :: L)) (hp : ps[j]? = some p) : w.cell? ⟨b, off + j * 2, none⟩ = some (.int .i64 p.b) ∧ w.cell? ⟨b, off + j * 2 + 1, none⟩ = some p.v := by
  obtain ⟨c1, c2⟩ := pcells_get hp
  exact ⟨SlK.cell (sat_PutsR.1 h) c1, by rw [Nat.add_assoc]; exact SlK.cell (sat_PutsR.1 h) c2⟩
theorem PutsR.addr {a : Option Addr} {n c : Nat} {ps : List Pt} (h : SatL w (PutsR (.slice a n c) ps :: L)) (h0 : 0 < ps.length) : ∃ b off, a = some ⟨b, off, none⟩ := by
  rcases SlK.form (sat_PutsR.1 h) with ⟨_, h1, _⟩ | ⟨b, off, cap, hv, _⟩
  · omega
  · injection hv with e
    exact ⟨b, off, e⟩
theorem PutsL.nil (h : SatL w L) : SatL w (PutsL (.slice none 0 0) [] :: L) :=
  sat_PutsL.2 ⟨[], rfl, sat_PutsR.2 (SlK_nil (big_nil.2 h))⟩
set_option maxRecDepth 100000 in
set_option maxHeartbeats 2000000 in
theorem sameputs9_ok {av bv : Value} {ps qs : List Pt} (hpq : ps.map (fun p => (p.b, p.d)) = qs.map (fun p => (p.b, p.d))) (h : SatL w (PutsR av ps :: PutsR bv qs :: L)) :
    Calls Try.prog 30 #[av, bv] w (Ret fun r w' => r = .bool true ∧ SatL w' (PutsR av ps :: PutsR bv qs :: L)) := by
  have hl : ps.length = qs.length := by have := congrArg List.length hpq; simpa using this
  obtain ⟨aa, ac, rfl, p1, p2⟩ := SlK.valn (sat_PutsR.1 h)
  obtain ⟨ba, bc, rfl, p3, p4⟩ := SlK.valn (sat_PutsR.1 (h.pull 1 : SatL _ (PutsR _ _ :: _)))
  have Hpq := hid hpq
  clear hpq
  rw [hl] at h p1 ⊢
  go_enter Try.func30, Try.ntmps30
  go_wp2
  go_loopw [5] (fun i wr => ∃ j : Nat, j ≤ qs.length ∧ i = .int .i64 j ∧ SatL wr (PutsR (.slice aa qs.length ac) ps :: PutsR (.slice ba qs.length bc) qs :: L)) (fun i _ => qs.length - (intOf i).toNat)
  case atStart => exact ⟨0, by omega, rfl, h⟩
  case round =>
    clear h
    obtain ⟨j, hj, rfl, hs⟩ := hrel
    by_cases hlt : j < qs.length
    · have hp : ps[j]? = some ps[j] := List.getElem?_eq_getElem (by omega)
      have hq : qs[j]? = some qs[j] := List.getElem?_eq_getElem hlt
      obtain ⟨b1, o1, rfl⟩ := PutsR.addr hs (by omega)
      obtain ⟨b2, o2, rfl⟩ := PutsR.addr (hs.pull 1 : SatL _ (PutsR _ _ :: _)) (by omega)
      obtain ⟨c1, c2⟩ := PutsR.pair (by rw [hl]; exact hs) hp
      obtain ⟨c3, c4⟩ := PutsR.pair (hs.pull 1 : SatL _ (PutsR _ _ :: _)) hq
      have r1 := PutsR.rowB hs (List.getElem_mem (by omega : j < ps.length))
      have r2 := PutsR.rowB (hs.pull 1 : SatL _ (PutsR _ _ :: _)) (List.getElem_mem hlt)
      have he : ps[j].b = qs[j].b ∧ ps[j].d = qs[j].d := by
        have h1 := congrArg (fun l => l[j]?) Hpq.out
        simp only [List.getElem?_map, hp, hq, Option.map_some] at h1
        injection h1 with h1
        injection h1 with h1 h2
        exact ⟨h1, h2⟩
      rw [he.1] at c1
      rw [he.2] at r1
      obtain ⟨va, vc, hv, q3, q4⟩ := r1.valn
      obtain ⟨ua, uc, hu, q5, q6⟩ := r2.valn
      rw [hv] at c2 r1
      rw [hu] at c4 r2
      have v1 := fun m => RdB.conv (r1.drewN m)
      have v2 := fun m => RdB.conv (r2.drewN m)
      clear r1 r2 hp hq hv hu he
      generalize qs[j].d = d2 at *
      generalize qs[j].b = k2 at *
      generalize d2.length = l2 at *
      generalize (⟨d2.toArray⟩ : ByteArray) = s1 at *
      go_wp2
      go_quiet (fail)
      go_wp2
      go_roundw
      case rel => exact ⟨j + 1, by omega, by go_num, (sat_drewN _).2 hs⟩
      case measure => simp [intOf]; omega
    · obtain rfl : j = qs.length := by omega
      go_wp2
      go_ret
      exact Ret.mk ⟨rfl, hs⟩
set_option maxRecDepth 100000 in
set_option maxHeartbeats 2000000 in
theorem mkfsP_no {b i : Int} {sec nsec : Nat} (he : planErr b i ≠ 0) (h : SatL w L) :
    Calls Try.prog 28 #[.int .i64 b, .int .i64 i, .agg #[.int .u32 sec, .int .u32 nsec]] w (Ret fun v w' => v = .tuple #[.slice none 0 0, .int .i64 (planErr b i)] ∧ SatL w' L) := by
  have k1 := h.alloc (.cells #[.int .i64 b] 3)
  have k2 := k1.allocN (n := w.heap.size + 1) (.cells #[.int .i64 i] 3) (by simp)
  have k3 := k2.allocN (n := w.heap.size + 1 + 1) (.cells #[.int .u32 sec, .int .u32 nsec] 43) (by simp)
  have y3 := SatL.cell (k3.pull 2 : SatL _ (cl _ _ _ :: _)) (i := 0) (v := .int .i64 b) rfl
  have y4 := SatL.cell (k3.pull 1 : SatL _ (cl _ _ _ :: _)) (i := 0) (v := .int .i64 i) rfl
  have hp := plan_ok k3 b i
  have hsup : planSup b i = noplan := by unfold planSup; rw [if_neg he]
  unfold PlanPost at hp
  rw [hsup, noplan] at hp
  have hpe : (planErr b i != 0) = true := by simpa using he
  generalize planErr b i = pe at *
  clear hsup he h k1 k2 k3
  go_enter Try.func28, Try.ntmps28
  go_wp2_with (go_at_call 25; (with_reducible refine hp.mono ?_); rintro e w1 ⟨v, rfl, rfl, hs1⟩)
  go_ret2
  exact Ret.mk ⟨rfl, (hs1.alloc _).tail.tail.tail.tail⟩
set_option maxRecDepth 100000 in
set_option maxHeartbeats 2000000 in
theorem mkfsR_no {b i : Int} {sec nsec : Nat} (he : planErr b i ≠ 0) (h : SatL w L) :
    Calls Try.prog 29 #[.int .i64 b, .int .i64 i, .agg #[.int .u32 sec, .int .u32 nsec]] w (Ret fun v w' => v = .tuple #[.slice none 0 0, .int .i64 (planErr b i)] ∧ SatL w' L) := by
  have k1 := h.alloc (.cells #[.int .u32 sec, .int .u32 nsec] 43)
  have hp := refplan_ok k1 b i
  have hsup : planSup b i = noplan := by unfold planSup; rw [if_neg he]
  unfold PlanPost at hp
  rw [hsup, noplan] at hp
  have hpe : (planErr b i != 0) = true := by simpa using he
  generalize planErr b i = pe at *
  clear hsup he h k1
  go_enter Try.func29, Try.ntmps29
  go_wp2_with (go_at_call 9; (with_reducible refine hp.mono ?_); rintro e w1 ⟨v, rfl, rfl, hs1⟩)
  go_ret2
  exact Ret.mk ⟨rfl, (hs1.alloc _).tail.tail⟩
set_option maxRecDepth 100000 in
set_option maxHeartbeats 2000000 in
theorem decP_no {a : Option Addr} {n c : Nat} (hn : n ≠ 512) (h : SatL w L) :
    Calls Try.prog 11 #[.slice a n c] w (Ret fun v w' => v = .tuple #[noplan, .int .i64 14] ∧ SatL w' L) := by
  have hne : ((n : Int) != 512) = true := by simp; omega
  clear hn
  have k1 := h.alloc (.cells #[.int .i64 0, .int .i64 0, .int .i64 0, .int .i64 0, .int .i64 0, .int .i64 0, .int .i64 0, .int .i64 0] 30)
  have z0 := SatL.cell k1 (i := 0) rfl; have f0 := SatL.free k1 0; have z1 := SatL.cell k1 (i := 1) rfl; have f1 := SatL.free k1 1; have z2 := SatL.cell k1 (i := 2) rfl; have f2 := SatL.free k1 2; have z3 := SatL.cell k1 (i := 3) rfl; have f3 := SatL.free k1 3; have z4 := SatL.cell k1 (i := 4) rfl; have f4 := SatL.free k1 4; have z5 := SatL.cell k1 (i := 5) rfl; have f5 := SatL.free k1 5; have z6 := SatL.cell k1 (i := 6) rfl; have f6 := SatL.free k1 6; have z7 := SatL.cell k1 (i := 7) rfl; have f7 := SatL.free k1 7
  go_enter Try.func11, Try.ntmps11
  go_wp2
  have r0 := SatL.cell k1 (i := 0) rfl
  have r1 := SatL.cell k1 (i := 1) rfl
  have r2 := SatL.cell k1 (i := 2) rfl
  have r3 := SatL.cell k1 (i := 3) rfl
  have r4 := SatL.cell k1 (i := 4) rfl
  have r5 := SatL.cell k1 (i := 5) rfl
  have r6 := SatL.cell k1 (i := 6) rfl
  have r7 := SatL.cell k1 (i := 7) rfl
  refine bodyPost_ret (v := .tuple #[noplan, .int .i64 14]) (by simp [results, Try.results11, go_sem, noplan, r0, r1, r2, r3, r4, r5, r6, r7]) rfl (Ret.mk ⟨rfl, ?_⟩)
  exact k1.tail
set_option maxRecDepth 100000 in
set_option maxHeartbeats 2000000 in
theorem decR_no {a : Option Addr} {n c : Nat} (hn : n ≠ 512) (h : SatL w L) :
    Calls Try.prog 12 #[.slice a n c] w (Ret fun v w' => v = .tuple #[noplan, .int .i64 14] ∧ SatL w' L) := by
  have hne : ((n : Int) != 512) = true := by simp; omega
  clear hn
  have k1 := h.alloc (.cells #[.int .i64 0, .int .i64 0, .int .i64 0, .int .i64 0, .int .i64 0, .int .i64 0, .int .i64 0, .int .i64 0] 26)
  have z0 := SatL.cell k1 (i := 0) rfl; have f0 := SatL.free k1 0; have z1 := SatL.cell k1 (i := 1) rfl; have f1 := SatL.free k1 1; have z2 := SatL.cell k1 (i := 2) rfl; have f2 := SatL.free k1 2; have z3 := SatL.cell k1 (i := 3) rfl; have f3 := SatL.free k1 3; have z4 := SatL.cell k1 (i := 4) rfl; have f4 := SatL.free k1 4; have z5 := SatL.cell k1 (i := 5) rfl; have f5 := SatL.free k1 5; have z6 := SatL.cell k1 (i := 6) rfl; have f6 := SatL.free k1 6; have z7 := SatL.cell k1 (i := 7) rfl; have f7 := SatL.free k1 7
  go_enter Try.func12, Try.ntmps12
  go_wp2
  have r0 := SatL.cell k1 (i := 0) rfl
  have r1 := SatL.cell k1 (i := 1) rfl
  have r2 := SatL.cell k1 (i := 2) rfl
  have r3 := SatL.cell k1 (i := 3) rfl
  have r4 := SatL.cell k1 (i := 4) rfl
  have r5 := SatL.cell k1 (i := 5) rfl
  have r6 := SatL.cell k1 (i := 6) rfl
  have r7 := SatL.cell k1 (i := 7) rfl
  refine bodyPost_ret (v := .tuple #[noplan, .int .i64 14]) (by simp [results, Try.results12, go_sem, noplan, r0, r1, r2, r3, r4, r5, r6, r7]) rfl (Ret.mk ⟨rfl, ?_⟩)
  exact k1.tail
end
end Go.Proofs.Ytgbaigbplaoeaaa
