/- A log enters a phase. No condition beside the sizes that it names. -/
import Derived.Test.YtjjnadlklfegcaaWalEnt
import Derived.StillTailTactics
import Derived.Deep.RegionLaw
namespace Go.Proofs.Ytjjnadlklfegcaa
set_option linter.unusedVariables false
set_option linter.unusedSimpArgs false
open Go.RowKit

section
variable {w : World} {L : List HP} {pb : Nat} {s : LogS}
set_option maxRecDepth 100000 in
set_option maxHeartbeats 8000000 in
theorem enter7_ok {p : Nat} (hp : p = 7) (hq : s.seq < 18446744073709551616) (hst : 0 ≤ s.start ∧ s.start ≤ 4611686018427387904) (hN : recErr s.N = 0) (h : SatL w (LogR pb s :: L)) :
    Calls Try.prog 58 #[.pointer (some ⟨pb, 0, none⟩), .int .i64 p] w (Ret fun r w' => SatL w' (LogR pb (s.enter p) :: L)) := by
  have Hp := hid hp
  have hp8 : p ≤ 8 := by omega
  clear hp
  obtain ⟨lv, m, nv, mv, rv, hf, h1⟩ := sat_LogR.1 h
  have hNl := hf.2.1
  have h2 := (((h1.set (i := 4) (.int .i64 p)).set (i := 5) (.slice none 0 0)).set (i := 6) (.int .i64 0)).set (i := 7) (.int .i64 0)
  have c4 : w.cell? ⟨pb, 4, none⟩ = some (.int .i64 s.phase) := h1.cell (i := 4) rfl
  have f4 := h1.free 4
  have c5 : w.cell? ⟨pb, 5, none⟩ = some rv := h1.cell (i := 5) rfl
  have f5 := h1.free 5
  have c6 : w.cell? ⟨pb, 6, none⟩ = some (.int .i64 s.told) := h1.cell (i := 6) rfl
  have f6 := h1.free 6
  have c7 : w.cell? ⟨pb, 7, none⟩ = some (.int .i64 s.don) := h1.cell (i := 7) rfl
  have f7 := h1.free 7
  have e2 : (((((logCells lv m nv mv rv s).setIfInBounds 4 (.int .i64 p)).setIfInBounds 5 (.slice none 0 0)).setIfInBounds 6 (.int .i64 0)).setIfInBounds 7 (.int .i64 0)) = entCells lv m nv mv (.slice none 0 0) s p := rfl
  rw [e2] at h2
  clear h h1 e2
  go_enter Try.func58, Try.ntmps58
  go_upto_region 1 with fail
  generalize (((w.setCell ⟨pb, 4, none⟩ (.int .i64 p)).setCell ⟨pb, 5, none⟩ (.slice none 0 0)).setCell ⟨pb, 6, none⟩ (.int .i64 0)).setCell ⟨pb, 7, none⟩ (.int .i64 0) = w1 at *
  clear c4 f4 c5 f5 c6 f6 c7 f7
  obtain ⟨qs, hqs, h3⟩ := sat_PutsL.1 (SatL.pull h2 3 : SatL w1 (PutsL _ _ :: _))
  have hrec := fun (w' : World) (L' : List HP) (h : SatL w' (PutsR nv qs :: L')) => record_of (seq := s.seq) hq hqs (show recLast s.seq s.N = (((1 + s.N.length : Nat) : Int), endB s.seq s.N) by unfold recLast; rw [if_pos hN]; rfl) hN (show recOut s.seq s.N = recRows s.seq s.N by unfold recOut; rw [if_pos hN]) (by omega) h
  obtain ⟨tb, htb⟩ : ∃ tb : Int, tb = ((1 + s.N.length : Nat) : Int) := ⟨_, rfl⟩
  rw [← htb] at hrec
  have hA := sat_drew.2 h3
  have hB := sat_drew.2 ((h3.alloc (.cells #[.int .i64 0, .slice none 0 0] 29)).swap)
  obtain ⟨na, nc, rfl, n1, n2⟩ := (PutsR.rdpts h3).1.valn
  have a0 : w1.drew.cell? ⟨pb, 9, none⟩ = some (.int .u64 s.seq) ∧ w1.drew.cell? ⟨pb, 2, none⟩ = some (.slice na qs.length nc) := ⟨SatL.cell (SatL.pull hA 1 : SatL _ (cl _ _ _ :: _)) (i := 9) rfl, SatL.cell (SatL.pull hA 1 : SatL _ (cl _ _ _ :: _)) (i := 2) rfl⟩
  have b0 : (w1.alloc (.cells #[.int .i64 0, .slice none 0 0] 29)).drew.cell? ⟨pb, 9, none⟩ = some (.int .u64 s.seq) ∧ (w1.alloc (.cells #[.int .i64 0, .slice none 0 0] 29)).drew.cell? ⟨pb, 2, none⟩ = some (.slice na qs.length nc) := ⟨SatL.cell (SatL.pull hB 2 : SatL _ (cl _ _ _ :: _)) (i := 9) rfl, SatL.cell (SatL.pull hB 2 : SatL _ (cl _ _ _ :: _)) (i := 2) rfl⟩
  have hqz : ((p : Nat) : Int) ≤ 8 := by omega
  have Hqs := hid hqs
  have HN := hid hN
  have Htb := hid htb
  have Hf := hid hf
  clear h2 h3 hqs hN htb hf
  go_cut [4, 5] from 32 to 45 (fun r4 r5 wr => ∃ (oa : Option Addr) (on oc eb : Nat) (ea : Option Addr) (en ec : Nat), r4 = .slice oa on oc ∧ r5 = .pointer (some ⟨eb, 0, none⟩) ∧ SatL wr (PutsL (.slice oa on oc) (recRows s.seq s.N) :: SlB 5 (.slice ea en ec) (endB s.seq s.N) :: cl eb 29 #[.int .i64 tb, .slice ea en ec] :: PutsR (.slice na qs.length nc) qs :: cl pb 121 (entCells lv m (.slice na qs.length nc) mv (.slice none 0 0) s p) :: PutsL lv s.L :: GrpOf m (s.L.map (·.1)) :: GrpN mv (s.N.map (·.1)) :: L))
  case first =>
    go_region_held (fun w' => w'.cell? ⟨pb, 9, none⟩ = some (.int .u64 s.seq) ∧ w'.cell? ⟨pb, 2, none⟩ = some (.slice na qs.length nc))
      (first | with_reducible exact a0 | with_reducible exact b0 | with_reducible exact m2 | with_reducible exact m2B | with_reducible exact m3 | with_reducible exact m4 | go_keep)
      (first
        | (go_at_call 13; first
            | ((with_reducible refine (hrec _ _ hA).mono ?_); rintro e w2 ⟨v2, rfl, ov, ea, en, ec, rfl, hC⟩; have m2 : w2.cell? ⟨pb, 9, none⟩ = some (.int .u64 s.seq) ∧ w2.cell? ⟨pb, 2, none⟩ = some (.slice na qs.length nc) := ⟨SatL.cell (SatL.pull hC 3 : SatL _ (cl _ _ _ :: _)) (i := 9) rfl, SatL.cell (SatL.pull hC 3 : SatL _ (cl _ _ _ :: _)) (i := 2) rfl⟩; have hE := hC.alloc (.cells #[.int .i64 0, .slice none 0 0] 29); have m3 : (w2.alloc (.cells #[.int .i64 0, .slice none 0 0] 29)).cell? ⟨pb, 9, none⟩ = some (.int .u64 s.seq) ∧ (w2.alloc (.cells #[.int .i64 0, .slice none 0 0] 29)).cell? ⟨pb, 2, none⟩ = some (.slice na qs.length nc) := ⟨SatL.cell (SatL.pull hE 4 : SatL _ (cl _ _ _ :: _)) (i := 9) rfl, SatL.cell (SatL.pull hE 4 : SatL _ (cl _ _ _ :: _)) (i := 2) rfl⟩; obtain ⟨oa, oc, rfl, o1, o2⟩ := PutsL.valn hC; have z0 := SatL.cell (hE : SatL _ (cl _ _ _ :: _)) (i := 0) rfl; have f0 := SatL.free (hE : SatL _ (cl _ _ _ :: _)) 0; have z1 := SatL.cell (hE : SatL _ (cl _ _ _ :: _)) (i := 1) rfl; have f1 := SatL.free (hE : SatL _ (cl _ _ _ :: _)) 1; have hG := hC.alloc (.cells #[.int .i64 tb, .slice ea en ec] 29); have m4 := (⟨SatL.cell (SatL.pull hG 4 : SatL _ (cl _ _ _ :: _)) (i := 9) (v := .int .u64 s.seq) rfl, SatL.cell (SatL.pull hG 4 : SatL _ (cl _ _ _ :: _)) (i := 2) (v := .slice na qs.length nc) rfl⟩ : _ ∧ _))
            | ((with_reducible refine (hrec _ _ hB).mono ?_); rintro e w2 ⟨v2, rfl, ov, ea, en, ec, rfl, hC⟩; have m2B : w2.cell? ⟨pb, 9, none⟩ = some (.int .u64 s.seq) ∧ w2.cell? ⟨pb, 2, none⟩ = some (.slice na qs.length nc) := ⟨SatL.cell (SatL.pull hC 4 : SatL _ (cl _ _ _ :: _)) (i := 9) rfl, SatL.cell (SatL.pull hC 4 : SatL _ (cl _ _ _ :: _)) (i := 2) rfl⟩; have hE := (SatL.pull hC 3 : SatL _ (cl _ _ _ :: _)); obtain ⟨oa, oc, rfl, o1, o2⟩ := PutsL.valn hC; have z0 := SatL.cell (hE : SatL _ (cl _ _ _ :: _)) (i := 0) rfl; have f0 := SatL.free (hE : SatL _ (cl _ _ _ :: _)) 0; have z1 := SatL.cell (hE : SatL _ (cl _ _ _ :: _)) (i := 1) rfl; have f1 := SatL.free (hE : SatL _ (cl _ _ _ :: _)) 1; have hG := put_chain (.int .i64 tb) (.slice ea en ec) hE; have m4 := (⟨SatL.cell (SatL.pull hG 4 : SatL _ (cl _ _ _ :: _)) (i := 9) (v := .int .u64 s.seq) rfl, SatL.cell (SatL.pull hG 4 : SatL _ (cl _ _ _ :: _)) (i := 2) (v := .slice na qs.length nc) rfl⟩ : _ ∧ _))))
    all_goals
      go_wp2
      go_meet
      exact ⟨_, _, _, _, _, _, _, rfl, rfl, SatL.tail (hG.bring [8, 1, 2, 0, 3, 4, 5, 6, 7])⟩
  case rest =>
    obtain ⟨oa, on, oc, eb, ea, en, ec, rfl, rfl, h5⟩ := hcut
    have hp := Hp.out
    subst hp
    have hql : qs.length = s.N.length := by have := congrArg List.length Hqs.out; rwa [List.length_map] at this
    have hqn : qs.length ≤ 64 := by omega
    have k2 := SatL.cell (SatL.pull h5 4 : SatL _ (cl pb _ _ :: _)) (i := 2) (v := .slice na qs.length nc) rfl
    have h6 : SatL wc (ReqsR (.slice none 0 0) [] :: cl pb 121 (entCells lv m (.slice na qs.length nc) mv (.slice none 0 0) s 7) :: PutsR (.slice na qs.length nc) qs :: PutsL lv s.L :: GrpOf m (s.L.map (·.1)) :: GrpN mv (s.N.map (·.1)) :: L) :=
      sat_ReqsR.2 (SlK_nil ((big_nil (f := fun r : Rp => SlB 5 r.v r.d)).2 (SatL.tail (SatL.tail (SatL.tail (h5.bring [0, 1, 2, 4, 3]))))))
    clear h5 hrec hA hB a0 b0 hql
    go_wp2
    go_loopw [153] (fun i wr => ∃ (k : Nat) (rv : Value) (rs : List Rp), k ≤ qs.length ∧ i = .int .i64 k ∧ rqs rs = (qs.take k).map (fun q => ⟨1, q.b, 0, q.d⟩) ∧ SatL wr (ReqsR rv rs :: cl pb 121 (entCells lv m (.slice na qs.length nc) mv rv s 7) :: PutsR (.slice na qs.length nc) qs :: PutsL lv s.L :: GrpOf m (s.L.map (·.1)) :: GrpN mv (s.N.map (·.1)) :: L)) (fun i _ => qs.length - (intOf i).toNat)
    case atStart => exact ⟨0, _, [], by omega, rfl, rfl, h6⟩
    case round =>
      clear h6 k2
      obtain ⟨k, rv, rs, hk, rfl, hrs, hs⟩ := hrel
      have Hrs := hid hrs
      obtain ⟨ra, rc, rfl, r1, r2⟩ := SlK.valn (sat_ReqsR.1 hs)
      by_cases hlt : k < qs.length
      · have hp : qs[k]? = some qs[k] := List.getElem?_eq_getElem hlt
        obtain ⟨b, bo, rfl, _⟩ := (PutsR.rdpts (SatL.pull hs 2 : SatL wr (PutsR _ _ :: _))).1.at (by omega)
        obtain ⟨k1, k2⟩ := PutsR.cell2 (SatL.pull hs 2 : SatL wr (PutsR _ _ :: _)) hp
        obtain ⟨va, vc, hv, i1, i2⟩ := PutsR.ptsl (SatL.pull hs 2 : SatL wr (PutsR _ _ :: _)) _ (List.getElem_mem hlt)
        have hd5 : qs[k].d.length ≤ 1000000000 := by
          have := Hf.out.2.len (qs[k].b, qs[k].d) (by rw [← Hqs.out]; exact List.mem_map_of_mem (List.getElem_mem hlt))
          simp only at this; omega
        have hrl : rs.length ≤ 1000000 := by
          have := congrArg List.length hrs
          rw [List.length_map, List.length_map, List.length_take] at this; omega
        have hsn : rqs rs ++ [⟨1, qs[k].b, 0, qs[k].d⟩] = (qs.take (k + 1)).map (fun q => (⟨1, q.b, 0, q.d⟩ : Rq)) := by rw [List.take_add_one, hp, List.map_append, hrs]; rfl
        have Hsn := hid hsn
        have hs1 := sat_drew.2 (hs.alloc (.cells #[.int .i64 qs[k].b, qs[k].v] 29))
        have hcl := clone_rd hs1 (fun w' h' => PutsR.rdb (SatL.pull h' 3 : SatL w' (PutsR _ _ :: _)) (List.getElem_mem hlt)) hd5
        rw [hv] at k2 hs1 hcl
        generalize qs[k].b = qb at *
        generalize qs[k].d = qd at *
        have x5 := SatL.cell (SatL.pull hs1 2 : SatL _ (cl pb _ _ :: _)) (i := 5) (v := .slice ra rs.length rc) rfl
        have x0 := SatL.cell (hs1 : SatL _ (cl _ _ _ :: _)) (i := 0) (v := .int .i64 qb) rfl
        have x1 := SatL.cell (hs1 : SatL _ (cl _ _ _ :: _)) (i := 1) (v := .slice va qd.length vc) rfl
        have hkz : (k : Int) < qs.length := by omega
        clear hp hv hsn hrs hs
        go_wp2
        go_region_law (first
          | (go_simp; go_at_call 47; (with_reducible refine hcl.mono ?_); rintro e w2 ⟨v2, rfl, h7⟩; obtain ⟨da, dc, rfl, _, _⟩ := SlB.valn h7; have y5 := SatL.cell (SatL.pull h7 3 : SatL w2 (cl pb _ _ :: _)) (i := 5) (v := .slice ra rs.length rc) rfl; have y0 := SatL.cell (SatL.pull h7 1 : SatL w2 (cl _ _ _ :: _)) (i := 0) (v := .int .i64 qb) rfl; have h8 := h7.alloc (.cells #[.int .i64 1, .int .i64 qb, .int .i64 0, .slice da qd.length dc] 80); have u5 := SatL.cell (SatL.pull h8 4 : SatL _ (cl pb _ _ :: _)) (i := 5) (v := .slice ra rs.length rc) rfl; have h9 : SatL w2 (ReqsR (.slice ra rs.length rc) rs :: SlB 5 (.slice da qd.length dc) qd :: _) := SatL.bring h7 [2, 0])
          | (refine step_oneReq (w := w2) (nb := w2.heap.size) rfl rfl (.tmp 162) (.tmp 169) rfl rfl rfl rfl h9 hrl ?_; intro v9 w9 h10; obtain ⟨oa9, oc9, hv9, _, _⟩ := SlK.valn (sat_ReqsR.1 h10); rw [List.length_append, List.length_cons, List.length_nil, Nat.zero_add] at hv9; subst hv9; have m0 := SatL.cell (SatL.pull h10 2 : SatL w9 (cl pb _ _ :: _)) (i := 5) (v := .slice ra rs.length rc) rfl; have m1 := SatL.free (SatL.pull h10 2 : SatL w9 (cl pb _ _ :: _)) 5; have h11 := (SatL.pull h10 2 : SatL w9 (cl pb _ _ :: _)).set (i := 5) (.slice oa9 (rs.length + 1) oc9))
          | fail "no")
        all_goals
          go_wp2
          go_roundw
          case rel => exact ⟨k + 1, _, _, by omega, by go_num, by rw [rqs_snoc]; exact Hsn.out, SatL.tail (h11.bring [2, 1, 0])⟩
          case measure => simp [intOf]; omega
      · obtain rfl : k = qs.length := by omega
        have e9 : rqs rs = reqsOf s 7 := by
          rw [hrs, List.take_length]
          show _ = s.N.map _
          rw [← Hqs.out, List.map_map]; rfl
        have h8 := sat_ReqsL.2 ⟨rs, e9, hs⟩
        have h9 := sat_PutsL.2 ⟨qs, Hqs.out, (SatL.pull h8 2 : SatL wr (PutsR _ _ :: _))⟩
        have hH := ent_fin Hf.out (h9.bring [2, 1, 3, 4, 0])
        clear hs h8 h9 e9 hrs
        go_wp2
        go_end0
        exact Ret.mk hH
end
end Go.Proofs.Ytjjnadlklfegcaa
