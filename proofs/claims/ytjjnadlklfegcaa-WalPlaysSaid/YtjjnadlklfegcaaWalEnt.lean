/- A log enters a phase. No condition beside the sizes that it names. -/
import Derived.Test.YtjjnadlklfegcaaWalReq
import Derived.StillTailTactics
import Derived.Deep.RegionLaw
namespace Go.Proofs.Ytjjnadlklfegcaa
set_option linter.unusedVariables false
set_option linter.unusedSimpArgs false
open Go.RowKit

section
variable {w : World} {L : List HP} {pb : Nat} {s : LogS}
theorem put_chain {b : Nat} {y0 y1 : Value} (x0 x1 : Value) (h : SatL w (cl b 29 #[y0, y1] :: L)) : SatL ((w.setCell ⟨b, 0, none⟩ x0).setCell ⟨b, 1, none⟩ x1) (cl b 29 #[x0, x1] :: L) := by
  have s0 := h.set (i := 0) x0
  simp only [List.setIfInBounds_toArray, List.set_cons_zero, List.set_cons_succ] at s0
  have s1 := s0.set (i := 1) x1
  simp only [List.setIfInBounds_toArray, List.set_cons_zero, List.set_cons_succ] at s1
  exact s1
/-- the log's cells behind the phase's beginning -/
abbrev entCells (lv : Value) (m : Nat) (nv mv rv : Value) (s : LogS) (p : Nat) : Array Value := logCells lv m nv mv rv { s with phase := p, R := [], told := 0, don := 0 }
theorem ent_fin {lv nv mv rv : Value} {m p : Nat} (hf : Fit s.L ∧ Fit s.N) (h : SatL w (cl pb 121 (entCells lv m nv mv rv s p) :: ReqsL rv (reqsOf s p) :: PutsL lv s.L :: GrpOf m (s.L.map (·.1)) :: PutsL nv s.N :: GrpN mv (s.N.map (·.1)) :: L)) :
    SatL w (LogR pb (s.enter p) :: L) :=
  sat_LogR.2 ⟨lv, m, nv, mv, rv, hf, h.bring [0, 2, 3, 4, 5, 1]⟩
theorem ent_one {lv nv mv u : Value} {m p nb : Nat} {k b n : Int} {d : List UInt8} {qs : List Pt} (hf : Fit s.L ∧ Fit s.N) (hqs : pds qs = s.N) (hR : reqsOf s p = [⟨k, b, n, d⟩])
    (h : SatL w (cl pb 121 (entCells lv m nv mv (.slice (some ⟨nb, 0, none⟩) 1 1) s p) :: cl nb 80 #[.int .i64 k, .int .i64 b, .int .i64 n, u] :: SlB 5 u d :: PutsR nv qs :: PutsL lv s.L :: GrpOf m (s.L.map (·.1)) :: GrpN mv (s.N.map (·.1)) :: L)) :
    SatL w (LogR pb (s.enter p) :: L) := by
  have h1 := sat_PutsL.2 ⟨qs, hqs, (SatL.pull h 3 : SatL w (PutsR _ _ :: _))⟩
  have h2 := ReqsR.one (h1.bring [2, 3])
  have h3 := sat_ReqsL.2 ⟨_, rfl, h2⟩
  refine ent_fin (lv := lv) (m := m) (nv := nv) (mv := mv) (rv := .slice (some ⟨nb, 0, none⟩) 1 1) hf ?_
  rw [hR]
  exact h3.bring [2, 0, 3, 4, 1]
theorem rows_head {s : Nat} {P : List PD} {xs : List Pt} (hx : pds xs = recRows s P) : ∃ v r, xs = ⟨0, v, headB s P⟩ :: r ∧ pds r = inRow 1 P := by
  cases xs with
  | nil => simp [recRows] at hx
  | cons p r =>
    obtain ⟨b, v, d⟩ := p
    simp [recRows] at hx
    obtain ⟨⟨rfl, rfl⟩, h2⟩ := hx
    exact ⟨v, r, rfl, h2⟩
set_option maxRecDepth 100000 in
set_option maxHeartbeats 8000000 in
theorem enterA_ok {p : Nat} (hp : (p = 2 ∨ p = 4 ∨ p = 6 ∨ p = 8) ∨ p = 1 ∨ p = 5) (hq : s.seq < 18446744073709551616) (hst : 0 ≤ s.start ∧ s.start ≤ 4611686018427387904) (hN : recErr s.N = 0) (h : SatL w (LogR pb s :: L)) :
    Calls Try.prog 58 #[.pointer (some ⟨pb, 0, none⟩), .int .i64 p] w (Ret fun r w' => SatL w' (LogR pb (s.enter p) :: L)) := by
  obtain ⟨lv, m, nv, mv, rv, hf, h1⟩ := sat_LogR.1 h
  have hNl := hf.2.1
  have h2 := (((h1.set (i := 4) (.int .i64 p)).set (i := 5) (.slice none 0 0)).set (i := 6) (.int .i64 0)).set (i := 7) (.int .i64 0)
  have c4 : w.cell? ⟨pb, 4, none⟩ = some (.int .i64 s.phase) := h1.cell (i := 4) rfl
  have f4 := h1.free 4
  have c5 : w.cell? ⟨pb, 5, none⟩ = some rv := h1.cell (i := 5) rfl
  have f5 := h1.free 5
  have c6 : w.cell? ⟨pb, 6, none⟩ = some (.int .i64 s.told) := h1.cell (i := 6) rfl
  have f6 := h1.free 6
  have c7 : w.cell? ⟨pb, 7, none⟩ = some (.int .i64 s.don) := h1.cell (i := 7) rfl
  have f7 := h1.free 7
  have e2 : (((((logCells lv m nv mv rv s).setIfInBounds 4 (.int .i64 p)).setIfInBounds 5 (.slice none 0 0)).setIfInBounds 6 (.int .i64 0)).setIfInBounds 7 (.int .i64 0)) = entCells lv m nv mv (.slice none 0 0) s p := rfl
  rw [e2] at h2
  clear h h1 e2
  go_enter Try.func58, Try.ntmps58
  go_upto_region 1 with fail
  generalize (((w.setCell ⟨pb, 4, none⟩ (.int .i64 p)).setCell ⟨pb, 5, none⟩ (.slice none 0 0)).setCell ⟨pb, 6, none⟩ (.int .i64 0)).setCell ⟨pb, 7, none⟩ (.int .i64 0) = w1 at *
  clear c4 f4 c5 f5 c6 f6 c7 f7
  obtain ⟨qs, hqs, h3⟩ := sat_PutsL.1 (SatL.pull h2 3 : SatL w1 (PutsL _ _ :: _))
  have hrec := fun (w' : World) (L' : List HP) (h : SatL w' (PutsR nv qs :: L')) => record_of (seq := s.seq) hq hqs (show recLast s.seq s.N = (((1 + s.N.length : Nat) : Int), endB s.seq s.N) by unfold recLast; rw [if_pos hN]; rfl) hN (show recOut s.seq s.N = recRows s.seq s.N by unfold recOut; rw [if_pos hN]) (by omega) h
  obtain ⟨tb, htb⟩ : ∃ tb : Int, tb = ((1 + s.N.length : Nat) : Int) := ⟨_, rfl⟩
  rw [← htb] at hrec
  have hA := sat_drew.2 h3
  have hB := sat_drew.2 ((h3.alloc (.cells #[.int .i64 0, .slice none 0 0] 29)).swap)
  obtain ⟨na, nc, rfl, n1, n2⟩ := (PutsR.rdpts h3).1.valn
  have a0 : w1.drew.cell? ⟨pb, 9, none⟩ = some (.int .u64 s.seq) ∧ w1.drew.cell? ⟨pb, 2, none⟩ = some (.slice na qs.length nc) := ⟨SatL.cell (SatL.pull hA 1 : SatL _ (cl _ _ _ :: _)) (i := 9) rfl, SatL.cell (SatL.pull hA 1 : SatL _ (cl _ _ _ :: _)) (i := 2) rfl⟩
  have b0 : (w1.alloc (.cells #[.int .i64 0, .slice none 0 0] 29)).drew.cell? ⟨pb, 9, none⟩ = some (.int .u64 s.seq) ∧ (w1.alloc (.cells #[.int .i64 0, .slice none 0 0] 29)).drew.cell? ⟨pb, 2, none⟩ = some (.slice na qs.length nc) := ⟨SatL.cell (SatL.pull hB 2 : SatL _ (cl _ _ _ :: _)) (i := 9) rfl, SatL.cell (SatL.pull hB 2 : SatL _ (cl _ _ _ :: _)) (i := 2) rfl⟩
  have hqz : ((p : Nat) : Int) ≤ 8 := by omega
  have Hqs := hid hqs
  have HN := hid hN
  have Htb := hid htb
  have Hf := hid hf
  clear h2 h3 hqs hN htb hf
  go_cut [4, 5] from 32 to 45 (fun r4 r5 wr => ∃ (oa : Option Addr) (on oc eb : Nat) (ea : Option Addr) (en ec : Nat), r4 = .slice oa on oc ∧ r5 = .pointer (some ⟨eb, 0, none⟩) ∧ SatL wr (PutsL (.slice oa on oc) (recRows s.seq s.N) :: SlB 5 (.slice ea en ec) (endB s.seq s.N) :: cl eb 29 #[.int .i64 tb, .slice ea en ec] :: PutsR (.slice na qs.length nc) qs :: cl pb 121 (entCells lv m (.slice na qs.length nc) mv (.slice none 0 0) s p) :: PutsL lv s.L :: GrpOf m (s.L.map (·.1)) :: GrpN mv (s.N.map (·.1)) :: L))
  case first =>
    go_region_held (fun w' => w'.cell? ⟨pb, 9, none⟩ = some (.int .u64 s.seq) ∧ w'.cell? ⟨pb, 2, none⟩ = some (.slice na qs.length nc))
      (first | with_reducible exact a0 | with_reducible exact b0 | with_reducible exact m2 | with_reducible exact m2B | with_reducible exact m3 | with_reducible exact m4 | go_keep)
      (first
        | (go_at_call 13; first
            | ((with_reducible refine (hrec _ _ hA).mono ?_); rintro e w2 ⟨v2, rfl, ov, ea, en, ec, rfl, hC⟩; have m2 : w2.cell? ⟨pb, 9, none⟩ = some (.int .u64 s.seq) ∧ w2.cell? ⟨pb, 2, none⟩ = some (.slice na qs.length nc) := ⟨SatL.cell (SatL.pull hC 3 : SatL _ (cl _ _ _ :: _)) (i := 9) rfl, SatL.cell (SatL.pull hC 3 : SatL _ (cl _ _ _ :: _)) (i := 2) rfl⟩; have hE := hC.alloc (.cells #[.int .i64 0, .slice none 0 0] 29); have m3 : (w2.alloc (.cells #[.int .i64 0, .slice none 0 0] 29)).cell? ⟨pb, 9, none⟩ = some (.int .u64 s.seq) ∧ (w2.alloc (.cells #[.int .i64 0, .slice none 0 0] 29)).cell? ⟨pb, 2, none⟩ = some (.slice na qs.length nc) := ⟨SatL.cell (SatL.pull hE 4 : SatL _ (cl _ _ _ :: _)) (i := 9) rfl, SatL.cell (SatL.pull hE 4 : SatL _ (cl _ _ _ :: _)) (i := 2) rfl⟩; obtain ⟨oa, oc, rfl, o1, o2⟩ := PutsL.valn hC; have z0 := SatL.cell (hE : SatL _ (cl _ _ _ :: _)) (i := 0) rfl; have f0 := SatL.free (hE : SatL _ (cl _ _ _ :: _)) 0; have z1 := SatL.cell (hE : SatL _ (cl _ _ _ :: _)) (i := 1) rfl; have f1 := SatL.free (hE : SatL _ (cl _ _ _ :: _)) 1; have hG := hC.alloc (.cells #[.int .i64 tb, .slice ea en ec] 29); have m4 := (⟨SatL.cell (SatL.pull hG 4 : SatL _ (cl _ _ _ :: _)) (i := 9) (v := .int .u64 s.seq) rfl, SatL.cell (SatL.pull hG 4 : SatL _ (cl _ _ _ :: _)) (i := 2) (v := .slice na qs.length nc) rfl⟩ : _ ∧ _))
            | ((with_reducible refine (hrec _ _ hB).mono ?_); rintro e w2 ⟨v2, rfl, ov, ea, en, ec, rfl, hC⟩; have m2B : w2.cell? ⟨pb, 9, none⟩ = some (.int .u64 s.seq) ∧ w2.cell? ⟨pb, 2, none⟩ = some (.slice na qs.length nc) := ⟨SatL.cell (SatL.pull hC 4 : SatL _ (cl _ _ _ :: _)) (i := 9) rfl, SatL.cell (SatL.pull hC 4 : SatL _ (cl _ _ _ :: _)) (i := 2) rfl⟩; have hE := (SatL.pull hC 3 : SatL _ (cl _ _ _ :: _)); obtain ⟨oa, oc, rfl, o1, o2⟩ := PutsL.valn hC; have z0 := SatL.cell (hE : SatL _ (cl _ _ _ :: _)) (i := 0) rfl; have f0 := SatL.free (hE : SatL _ (cl _ _ _ :: _)) 0; have z1 := SatL.cell (hE : SatL _ (cl _ _ _ :: _)) (i := 1) rfl; have f1 := SatL.free (hE : SatL _ (cl _ _ _ :: _)) 1; have hG := put_chain (.int .i64 tb) (.slice ea en ec) hE; have m4 := (⟨SatL.cell (SatL.pull hG 4 : SatL _ (cl _ _ _ :: _)) (i := 9) (v := .int .u64 s.seq) rfl, SatL.cell (SatL.pull hG 4 : SatL _ (cl _ _ _ :: _)) (i := 2) (v := .slice na qs.length nc) rfl⟩ : _ ∧ _))))
    all_goals
      go_wp2
      go_meet
      exact ⟨_, _, _, _, _, _, _, rfl, rfl, SatL.tail (hG.bring [8, 1, 2, 0, 3, 4, 5, 6, 7])⟩
  case rest =>
    obtain ⟨oa, on, oc, eb, ea, en, ec, rfl, rfl, h5⟩ := hcut
    have hqp : p ≤ 8 := by omega
    rcases hp with hev | rfl | rfl
    · have hE := h5.alloc (.cells #[.int .i64 4, .int .i64 0, .int .i64 0, .slice none 0 0] 80)
      have z0 := SatL.cell (SatL.pull hE 5 : SatL _ (cl pb _ _ :: _)) (i := 5) (v := .slice none 0 0) rfl
      have f0 := SatL.free (SatL.pull hE 5 : SatL _ (cl pb _ _ :: _)) 5
      have hF := (SatL.pull hE 5 : SatL _ (cl pb _ _ :: _)).set (i := 5) (.slice (some ⟨wc.heap.size, 0, none⟩) 1 1)
      have hG : SatL _ (cl pb 121 (entCells lv m (.slice na qs.length nc) mv (.slice (some ⟨wc.heap.size, 0, none⟩) 1 1) s p) :: cl wc.heap.size 80 #[.int .i64 4, .int .i64 0, .int .i64 0, .slice none 0 0] :: PutsR (.slice na qs.length nc) qs :: PutsL lv s.L :: GrpOf m (s.L.map (·.1)) :: GrpN mv (s.N.map (·.1)) :: L) := SatL.tail (SatL.tail (SatL.tail (hF.bring [2, 3, 4, 0, 1, 5, 6, 7, 8])))
      have hH := ent_one Hf.out Hqs.out (show reqsOf s p = [⟨4, 0, 0, []⟩] by rcases hev with rfl | rfl | rfl | rfl <;> rfl) ((Sl_nil hG).bring [1, 2, 0])
      clear h5 hE hF hG hrec hA hB a0 b0
      rcases hev with rfl | rfl | rfl | rfl
      all_goals
        go_wp2
        go_end0
        exact Ret.mk hH
    · have h6 := sat_drew.2 h5
      have k8 := SatL.cell (SatL.pull h6 4 : SatL _ (cl pb _ _ :: _)) (i := 8) (v := .int .i64 s.start) rfl
      obtain ⟨w4, rM, h7⟩ := run_make_sl elem_byte h6 512 (by omega) (by omega)
      rw [show ((512 : Nat) : Int) = 512 from rfl] at rM
      have k9 := SatL.cell (SatL.pull h7 5 : SatL _ (cl pb _ _ :: _)) (i := 8) (v := .int .i64 s.start) rfl
      have hE := h7.alloc (.cells #[.int .i64 1, .int .i64 s.start, .int .i64 0, .slice (some ⟨wc.heap.size, 0, none⟩) 512 512] 80)
      have z0 := SatL.cell (SatL.pull hE 6 : SatL _ (cl pb _ _ :: _)) (i := 5) (v := .slice none 0 0) rfl
      have f0 := SatL.free (SatL.pull hE 6 : SatL _ (cl pb _ _ :: _)) 5
      have hF := (SatL.pull hE 6 : SatL _ (cl pb _ _ :: _)).set (i := 5) (.slice (some ⟨w4.heap.size, 0, none⟩) 1 1)
      have hG : SatL _ (cl pb 121 (entCells lv m (.slice na qs.length nc) mv (.slice (some ⟨w4.heap.size, 0, none⟩) 1 1) s 1) :: cl w4.heap.size 80 #[.int .i64 1, .int .i64 s.start, .int .i64 0, .slice (some ⟨wc.heap.size, 0, none⟩) 512 512] :: Sl 5 (.slice (some ⟨wc.heap.size, 0, none⟩) 512 512) (List.replicate 512 (.int .u8 0)) :: PutsR (.slice na qs.length nc) qs :: PutsL lv s.L :: GrpOf m (s.L.map (·.1)) :: GrpN mv (s.N.map (·.1)) :: L) := SatL.tail (SatL.tail (SatL.tail (hF.bring [3, 4, 5, 0, 1, 2, 6, 7, 8, 9])))
      rw [← bvs_zeros] at hG
      have hH := ent_one Hf.out Hqs.out (show reqsOf s 1 = [⟨1, s.start, 0, List.replicate 512 0⟩] from rfl) hG
      clear h5 h6 h7 hE hF hG hrec hA hB a0 b0
      go_wp2
      go_region
      go_wp2
      go_end0
      exact Ret.mk hH
    · obtain ⟨rs, hrs, h6⟩ := sat_PutsL.1 h5
      obtain ⟨hv, rt, rfl, hrt⟩ := rows_head hrs
      obtain ⟨ra, rc, hro, r1, r2⟩ := (PutsR.rdpts h6).1.valn
      cases hro
      obtain ⟨rb, ro, rfl, _⟩ := (PutsR.rdpts h6).1.at (by simp)
      obtain ⟨ha, hc, hhv, i1, i2⟩ := PutsR.ptsl h6 _ (List.mem_cons_self ..)
      simp only at hhv
      rw [headB_len (by omega)] at hhv
      subst hhv
      have h7 := sat_drew.2 h6
      have k8 := SatL.cell (SatL.pull h7 4 : SatL _ (cl pb _ _ :: _)) (i := 8) (v := .int .i64 s.start) rfl
      have kd := (PutsR.cell2 h7 (j := 0) rfl).2
      rw [Nat.zero_mul, Nat.add_zero] at kd
      have k0 : (0 : Int) < ((({ b := 0, v := .slice ha 512 hc, d := headB s.seq s.N } : Pt) :: rt).length : Nat) := by simp
      have hE := sat_drew.2 (h6.alloc (.cells #[.int .i64 1, .int .i64 s.start, .int .i64 0, .slice ha 512 hc] 80))
      have z0 := SatL.cell (SatL.pull hE 5 : SatL _ (cl pb _ _ :: _)) (i := 5) (v := .slice none 0 0) rfl
      have f0 := SatL.free (SatL.pull hE 5 : SatL _ (cl pb _ _ :: _)) 5
      have hF := (SatL.pull hE 5 : SatL _ (cl pb _ _ :: _)).set (i := 5) (.slice (some ⟨wc.heap.size, 0, none⟩) 1 1)
      have hF2 := big_cons.1 (SatL.pull (sat_PutsR.1 (SatL.pull hF 2 : SatL _ (PutsR _ _ :: _))) 1 : SatL _ (big _ _ :: _))
      have hG : SatL _ (cl pb 121 (entCells lv m (.slice na qs.length nc) mv (.slice (some ⟨wc.heap.size, 0, none⟩) 1 1) s 5) :: cl wc.heap.size 80 #[.int .i64 1, .int .i64 s.start, .int .i64 0, .slice ha 512 hc] :: SlB 5 (.slice ha 512 hc) (headB s.seq s.N) :: PutsR (.slice na qs.length nc) qs :: PutsL lv s.L :: GrpOf m (s.L.map (·.1)) :: GrpN mv (s.N.map (·.1)) :: L) := SatL.tail (SatL.tail (SatL.tail (SatL.tail (hF2.bring [1, 2, 5, 6, 3, 4, 0, 7, 8, 9, 10]))))
      have hH := ent_one Hf.out Hqs.out (show reqsOf s 5 = [⟨1, s.start, 0, headB s.seq s.N⟩] from rfl) hG
      clear h5 h6 h7 hE hF hF2 hG hrec hA hB a0 b0 hrs hrt r1
      generalize ((({ b := 0, v := .slice ha 512 hc, d := headB s.seq s.N } : Pt) :: rt).length : Nat) = rn at *
      go_wp2
      go_region
      go_wp2
      go_end0
      exact Ret.mk hH
end
end Go.Proofs.Ytjjnadlklfegcaa
