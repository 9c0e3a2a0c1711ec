/- A log enters a phase. No condition beside the sizes that it names. -/
import Derived.Test.YtjjnadlklfegcaaWalEnt
import Derived.Test.YtjjnadlklfegcaaWalSl3
import Derived.StillTailTactics
import Derived.Deep.RegionLaw
namespace Go.Proofs.Ytjjnadlklfegcaa
set_option linter.unusedVariables false
set_option linter.unusedSimpArgs false
open Go.RowKit

section
variable {w : World} {L : List HP} {pb : Nat} {s : LogS}
set_option maxRecDepth 100000 in
set_option maxHeartbeats 8000000 in
theorem enter3_ok {p : Nat} (hp : p = 3) (hq : s.seq < 18446744073709551616) (hst : 0 ≤ s.start ∧ s.start ≤ 4611686018427387904) (hN : recErr s.N = 0) (h : SatL w (LogR pb s :: L)) :
    Calls Try.prog 58 #[.pointer (some ⟨pb, 0, none⟩), .int .i64 p] w (Ret fun r w' => SatL w' (LogR pb (s.enter p) :: L)) := by
  have Hp := hid hp
  have hp8 : p ≤ 8 := by omega
  clear hp
  obtain ⟨lv, m, nv, mv, rv, hf, h1⟩ := sat_LogR.1 h
  have hNl := hf.2.1
  have h2 := (((h1.set (i := 4) (.int .i64 p)).set (i := 5) (.slice none 0 0)).set (i := 6) (.int .i64 0)).set (i := 7) (.int .i64 0)
  have c4 : w.cell? ⟨pb, 4, none⟩ = some (.int .i64 s.phase) := h1.cell (i := 4) rfl
  have f4 := h1.free 4
  have c5 : w.cell? ⟨pb, 5, none⟩ = some rv := h1.cell (i := 5) rfl
  have f5 := h1.free 5
  have c6 : w.cell? ⟨pb, 6, none⟩ = some (.int .i64 s.told) := h1.cell (i := 6) rfl
  have f6 := h1.free 6
  have c7 : w.cell? ⟨pb, 7, none⟩ = some (.int .i64 s.don) := h1.cell (i := 7) rfl
  have f7 := h1.free 7
  have e2 : (((((logCells lv m nv mv rv s).setIfInBounds 4 (.int .i64 p)).setIfInBounds 5 (.slice none 0 0)).setIfInBounds 6 (.int .i64 0)).setIfInBounds 7 (.int .i64 0)) = entCells lv m nv mv (.slice none 0 0) s p := rfl
  rw [e2] at h2
  clear h h1 e2
  go_enter Try.func58, Try.ntmps58
  go_upto_region 1 with fail
  generalize (((w.setCell ⟨pb, 4, none⟩ (.int .i64 p)).setCell ⟨pb, 5, none⟩ (.slice none 0 0)).setCell ⟨pb, 6, none⟩ (.int .i64 0)).setCell ⟨pb, 7, none⟩ (.int .i64 0) = w1 at *
  clear c4 f4 c5 f5 c6 f6 c7 f7
  obtain ⟨qs, hqs, h3⟩ := sat_PutsL.1 (SatL.pull h2 3 : SatL w1 (PutsL _ _ :: _))
  have hrec := fun (w' : World) (L' : List HP) (h : SatL w' (PutsR nv qs :: L')) => record_of (seq := s.seq) hq hqs (show recLast s.seq s.N = (((1 + s.N.length : Nat) : Int), endB s.seq s.N) by unfold recLast; rw [if_pos hN]; rfl) hN (show recOut s.seq s.N = recRows s.seq s.N by unfold recOut; rw [if_pos hN]) (by omega) h
  obtain ⟨tb, htb⟩ : ∃ tb : Int, tb = ((1 + s.N.length : Nat) : Int) := ⟨_, rfl⟩
  rw [← htb] at hrec
  have hA := sat_drew.2 h3
  have hB := sat_drew.2 ((h3.alloc (.cells #[.int .i64 0, .slice none 0 0] 29)).swap)
  obtain ⟨na, nc, rfl, n1, n2⟩ := (PutsR.rdpts h3).1.valn
  have a0 : w1.drew.cell? ⟨pb, 9, none⟩ = some (.int .u64 s.seq) ∧ w1.drew.cell? ⟨pb, 2, none⟩ = some (.slice na qs.length nc) := ⟨SatL.cell (SatL.pull hA 1 : SatL _ (cl _ _ _ :: _)) (i := 9) rfl, SatL.cell (SatL.pull hA 1 : SatL _ (cl _ _ _ :: _)) (i := 2) rfl⟩
  have b0 : (w1.alloc (.cells #[.int .i64 0, .slice none 0 0] 29)).drew.cell? ⟨pb, 9, none⟩ = some (.int .u64 s.seq) ∧ (w1.alloc (.cells #[.int .i64 0, .slice none 0 0] 29)).drew.cell? ⟨pb, 2, none⟩ = some (.slice na qs.length nc) := ⟨SatL.cell (SatL.pull hB 2 : SatL _ (cl _ _ _ :: _)) (i := 9) rfl, SatL.cell (SatL.pull hB 2 : SatL _ (cl _ _ _ :: _)) (i := 2) rfl⟩
  have hqz : ((p : Nat) : Int) ≤ 8 := by omega
  have Hqs := hid hqs
  have HN := hid hN
  have Htb := hid htb
  have Hf := hid hf
  clear h2 h3 hqs hN htb hf
  go_cut [4, 5] from 32 to 45 (fun r4 r5 wr => ∃ (oa : Option Addr) (on oc eb : Nat) (ea : Option Addr) (en ec : Nat), r4 = .slice oa on oc ∧ r5 = .pointer (some ⟨eb, 0, none⟩) ∧ SatL wr (PutsL (.slice oa on oc) (recRows s.seq s.N) :: SlB 5 (.slice ea en ec) (endB s.seq s.N) :: cl eb 29 #[.int .i64 tb, .slice ea en ec] :: PutsR (.slice na qs.length nc) qs :: cl pb 121 (entCells lv m (.slice na qs.length nc) mv (.slice none 0 0) s p) :: PutsL lv s.L :: GrpOf m (s.L.map (·.1)) :: GrpN mv (s.N.map (·.1)) :: L))
  case first =>
    go_region_held (fun w' => w'.cell? ⟨pb, 9, none⟩ = some (.int .u64 s.seq) ∧ w'.cell? ⟨pb, 2, none⟩ = some (.slice na qs.length nc))
      (first | with_reducible exact a0 | with_reducible exact b0 | with_reducible exact m2 | with_reducible exact m2B | with_reducible exact m3 | with_reducible exact m4 | go_keep)
      (first
        | (go_at_call 13; first
            | ((with_reducible refine (hrec _ _ hA).mono ?_); rintro e w2 ⟨v2, rfl, ov, ea, en, ec, rfl, hC⟩; have m2 : w2.cell? ⟨pb, 9, none⟩ = some (.int .u64 s.seq) ∧ w2.cell? ⟨pb, 2, none⟩ = some (.slice na qs.length nc) := ⟨SatL.cell (SatL.pull hC 3 : SatL _ (cl _ _ _ :: _)) (i := 9) rfl, SatL.cell (SatL.pull hC 3 : SatL _ (cl _ _ _ :: _)) (i := 2) rfl⟩; have hE := hC.alloc (.cells #[.int .i64 0, .slice none 0 0] 29); have m3 : (w2.alloc (.cells #[.int .i64 0, .slice none 0 0] 29)).cell? ⟨pb, 9, none⟩ = some (.int .u64 s.seq) ∧ (w2.alloc (.cells #[.int .i64 0, .slice none 0 0] 29)).cell? ⟨pb, 2, none⟩ = some (.slice na qs.length nc) := ⟨SatL.cell (SatL.pull hE 4 : SatL _ (cl _ _ _ :: _)) (i := 9) rfl, SatL.cell (SatL.pull hE 4 : SatL _ (cl _ _ _ :: _)) (i := 2) rfl⟩; obtain ⟨oa, oc, rfl, o1, o2⟩ := PutsL.valn hC; have z0 := SatL.cell (hE : SatL _ (cl _ _ _ :: _)) (i := 0) rfl; have f0 := SatL.free (hE : SatL _ (cl _ _ _ :: _)) 0; have z1 := SatL.cell (hE : SatL _ (cl _ _ _ :: _)) (i := 1) rfl; have f1 := SatL.free (hE : SatL _ (cl _ _ _ :: _)) 1; have hG := hC.alloc (.cells #[.int .i64 tb, .slice ea en ec] 29); have m4 := (⟨SatL.cell (SatL.pull hG 4 : SatL _ (cl _ _ _ :: _)) (i := 9) (v := .int .u64 s.seq) rfl, SatL.cell (SatL.pull hG 4 : SatL _ (cl _ _ _ :: _)) (i := 2) (v := .slice na qs.length nc) rfl⟩ : _ ∧ _))
            | ((with_reducible refine (hrec _ _ hB).mono ?_); rintro e w2 ⟨v2, rfl, ov, ea, en, ec, rfl, hC⟩; have m2B : w2.cell? ⟨pb, 9, none⟩ = some (.int .u64 s.seq) ∧ w2.cell? ⟨pb, 2, none⟩ = some (.slice na qs.length nc) := ⟨SatL.cell (SatL.pull hC 4 : SatL _ (cl _ _ _ :: _)) (i := 9) rfl, SatL.cell (SatL.pull hC 4 : SatL _ (cl _ _ _ :: _)) (i := 2) rfl⟩; have hE := (SatL.pull hC 3 : SatL _ (cl _ _ _ :: _)); obtain ⟨oa, oc, rfl, o1, o2⟩ := PutsL.valn hC; have z0 := SatL.cell (hE : SatL _ (cl _ _ _ :: _)) (i := 0) rfl; have f0 := SatL.free (hE : SatL _ (cl _ _ _ :: _)) 0; have z1 := SatL.cell (hE : SatL _ (cl _ _ _ :: _)) (i := 1) rfl; have f1 := SatL.free (hE : SatL _ (cl _ _ _ :: _)) 1; have hG := put_chain (.int .i64 tb) (.slice ea en ec) hE; have m4 := (⟨SatL.cell (SatL.pull hG 4 : SatL _ (cl _ _ _ :: _)) (i := 9) (v := .int .u64 s.seq) rfl, SatL.cell (SatL.pull hG 4 : SatL _ (cl _ _ _ :: _)) (i := 2) (v := .slice na qs.length nc) rfl⟩ : _ ∧ _))))
    all_goals
      go_wp2
      go_meet
      exact ⟨_, _, _, _, _, _, _, rfl, rfl, SatL.tail (hG.bring [8, 1, 2, 0, 3, 4, 5, 6, 7])⟩
  case rest =>
    obtain ⟨oa, on, oc, eb, ea, en, ec, rfl, rfl, h5⟩ := hcut
    have hp := Hp.out
    subst hp
    obtain ⟨rs, hrs, h6⟩ := sat_PutsL.1 h5
    obtain ⟨hv, rt, rfl, hrt⟩ := rows_head hrs
    obtain ⟨ra, rc, hro, r1, r2⟩ := (PutsR.rdpts h6).1.valn
    cases hro
    obtain ⟨rb, ro, rfl, _⟩ := (PutsR.rdpts h6).1.at (by simp)
    have hrn : rt.length = s.N.length := by have := congrArg List.length hrt; rw [List.length_map] at this; rw [this]; simp [inRow]
    have hon : (({ b := 0, v := hv, d := headB s.seq s.N } : Pt) :: rt).length = rt.length + 1 := rfl
    rw [hon] at h6 r1
    have g6 := SlB.rd (SatL.pull h6 1 : SatL wc (SlB _ _ _ :: _))
    have g7 := g6.valn
    rw [show (endB s.seq s.N).length = 512 from endOf_len _ _] at g7
    obtain ⟨ea', ec', hee, i1, i2⟩ := g7
    cases hee
    have h7 := PutsR.rest h6
    have h8 : SatL wc.drew (PutsR (.slice (some ⟨rb, ro + 2, none⟩) rt.length rt.length) rt :: SlB 5 (.slice ea 512 ec) (endB s.seq s.N) :: cl eb 29 #[.int .i64 tb, .slice ea 512 ec] :: PutsR (.slice na qs.length nc) qs :: cl pb 121 (entCells lv m (.slice na qs.length nc) mv (.slice none 0 0) s 3) :: PutsL lv s.L :: GrpOf m (s.L.map (·.1)) :: GrpN mv (s.N.map (·.1)) :: L) := sat_drew.2 h7
    have t0 := SatL.cell (SatL.pull h8 2 : SatL _ (cl _ _ _ :: _)) (i := 0) (v := .int .i64 tb) rfl
    have t1 := SatL.cell (SatL.pull h8 2 : SatL _ (cl _ _ _ :: _)) (i := 1) (v := .slice ea 512 ec) rfl
    have hrl : rt.length ≤ 1000000 := by omega
    have b1 : (rt.length : Int) + 1 ≤ oc := by omega
    have b0 : (0 : Int) ≤ (rt.length : Int) + 1 := by omega
    have b7 : 1 < rt.length + 1 := by rw [hrn]; have := List.length_pos_iff.2 (show s.N ≠ [] from fun e => by have h9 := HN.out; rw [e] at h9; exact absurd h9 (by decide)); omega
    have b2 : (oc : Int) ≤ 9223372036854775807 := by omega
    have b3 : (1 : Int) ≤ (rt.length : Int) + 1 := by omega
    have Hrn := hid hrn
    have hN1 : s.N ≠ [] := by
      intro e
      have h9 := HN.out
      rw [e] at h9
      exact absurd h9 (by decide)
    have b4 : 0 < rt.length := by rw [hrn]; exact List.length_pos_iff.2 hN1
    have b5 : ¬ rt.length = 0 := by omega
    clear h5 h6 h7 hrec hA hB a0 g6 hon hrs hrn hN1
    go_upto_region 12 with fail
    go_cut [7] from 74 to 82 (fun r7 wr => SatL wr (PutsR r7 (rt ++ [⟨tb, .slice ea 512 ec, endB s.seq s.N⟩]) :: cl eb 29 #[.int .i64 tb, .slice ea 512 ec] :: PutsR (.slice na qs.length nc) qs :: cl pb 121 (entCells lv m (.slice na qs.length nc) mv (.slice none 0 0) s 3) :: PutsL lv s.L :: GrpOf m (s.L.map (·.1)) :: GrpN mv (s.N.map (·.1)) :: L))
    case first =>
      go_region_law (first
        | (refine step_onePut_new (w := wc.drew) (nb := wc.heap.size) rfl rfl (.tmp 79) (.tmp 81) rfl rfl rfl rfl h8 hrl ?_; intro v9 w9 h9)
        | fail "no")
      all_goals
        go_wp2
        go_meet
        exact h9
    case rest =>
      clear h8 t0 t1 b1 b0 b2 b3 b4 b5 b7 r1 r2 i1 i2 hrl hp8 hqz n1 n2 Hp
      obtain ⟨ls, hls⟩ : ∃ ls, ls = rt ++ [(⟨tb, .slice ea 512 ec, endB s.seq s.N⟩ : Pt)] := ⟨_, rfl⟩
      rw [← hls] at hcut
      have hlp : pds ls = (recAll s.seq s.N).drop 1 := by rw [hls, pds_snoc, hrt, Htb.out]; rfl
      have hln : ls.length = s.N.length + 1 := by rw [hls, List.length_append, Hrn.out]; rfl
      have hlm : ∀ p ∈ ls, p.d.length = 512 ∧ 0 ≤ p.b ∧ p.b ≤ 65 := by
        intro p hp
        rw [hls] at hp
        rcases List.mem_append.1 hp with hp | hp
        · have h1 : (p.b, p.d) ∈ inRow 1 s.N := by rw [← hrt]; exact List.mem_map_of_mem hp
          obtain ⟨i, q, hq, he⟩ := inRow_mem h1
          injection he with e1 e2
          have hi := (List.getElem?_eq_some_iff.1 hq).1
          refine ⟨by rw [e2]; exact Hf.out.2.len q (List.mem_of_getElem? hq), by omega, by omega⟩
        · rw [List.mem_singleton.1 hp]
          have := Htb.out
          exact ⟨endOf_len _ _, by simp only; omega, by simp only; omega⟩
      have Hlp := hid hlp
      have Hlm := hid hlm
      have Hln := hid hln
      have hl66 : ls.length ≤ 65 := by omega
      have hl0 : 0 < ls.length := by omega
      obtain ⟨la, lc, rfl, l1, l2⟩ := (PutsR.rdpts hcut).1.valn
      obtain ⟨lb, lo, rfl, _⟩ := (PutsR.rdpts hcut).1.at hl0
      have hs0 : SatL wc (ReqsR (.slice none 0 0) [] :: cl pb 121 (entCells lv m (.slice na qs.length nc) mv (.slice none 0 0) s 3) :: PutsR (.slice (some ⟨lb, lo, none⟩) ls.length lc) ls :: PutsR (.slice na qs.length nc) qs :: PutsL lv s.L :: GrpOf m (s.L.map (·.1)) :: GrpN mv (s.N.map (·.1)) :: L) :=
        sat_ReqsR.2 (SlK_nil ((big_nil (f := fun r : Rp => SlB 5 r.v r.d)).2 (SatL.tail (hcut.bring [1, 3, 0]))))
      clear hcut hls hrt hlp hlm hln Hrn
      go_wp2
      go_loopw [8] (fun iv wr => ∃ (c x : Nat) (rv : Value) (rs : List Rp), x = 16 * c ∧ c ≤ (ls.length + 15) / 16 ∧ iv = .int .i64 x ∧ rqs rs = wreqs s.start (pds ls) c ∧ SatL wr (ReqsR rv rs :: cl pb 121 (entCells lv m (.slice na qs.length nc) mv rv s 3) :: PutsR (.slice (some ⟨lb, lo, none⟩) ls.length lc) ls :: PutsR (.slice na qs.length nc) qs :: PutsL lv s.L :: GrpOf m (s.L.map (·.1)) :: GrpN mv (s.N.map (·.1)) :: L)) (fun iv _ => ls.length - (intOf iv).toNat)
      case atStart => exact ⟨0, 0, _, [], by omega, by omega, rfl, rfl, hs0⟩
      case round =>
        clear hs0
        obtain ⟨c, x, rv, rs, hx, hc, rfl, hrs, hs⟩ := hrel
        obtain ⟨ra, rc, rfl, r1, r2⟩ := SlK.valn (sat_ReqsR.1 hs)
        by_cases hlt : x < ls.length
        · have hp : ls[x]? = some ls[x] := List.getElem?_eq_getElem hlt
          obtain ⟨hpd, hb0, hb1⟩ := Hlm.out _ (List.getElem_mem hlt)
          obtain ⟨mm, hmm⟩ : ∃ mm, mm = min 16 (ls.length - x) := ⟨_, rfl⟩
          have hrl : rs.length ≤ 1000000 := by
            have := congrArg List.length hrs
            rw [List.length_map] at this
            rw [this]; simp [wreqs]; omega
          have hsn : rqs rs ++ [⟨1, s.start + ls[x].b, 0, flatFrom ls x mm⟩] = wreqs s.start (pds ls) (c + 1) := by
            rw [wreqs_snoc, ← hx, wreq_of s.start hp hmm, hrs]
          have Hsn := hid hsn
          have Hx := hid hx
          have Hmm := hid hmm
          have hmb : x + mm ≤ ls.length ∧ mm ≤ 16 := by omega
          have Hmb := hid hmb
          have hmc : (ls.length < x + 16 ∧ mm = ls.length - x) ∨ (x + 16 ≤ ls.length ∧ mm = 16) := by omega
          have hxz : (x : Int) < ls.length := by omega
          have hs1 := sat_drew.2 hs
          have hs2 := sat_drew.2 (hs.alloc (.cells #[.int .i64 0, .int .i64 0, .int .i64 0, .slice none 0 0] 80))
          have k8 := SatL.cell (SatL.pull hs1 1 : SatL _ (cl pb _ _ :: _)) (i := 8) (v := .int .i64 s.start) rfl
          have kb := (PutsR.cell2 (SatL.pull hs1 2 : SatL _ (PutsR _ _ :: _)) hp).1
          have j8 := SatL.cell (SatL.pull hs2 2 : SatL _ (cl pb _ _ :: _)) (i := 8) (v := .int .i64 s.start) rfl
          have jb := (PutsR.cell2 (SatL.pull hs2 3 : SatL _ (PutsR _ _ :: _)) hp).1
          have z0 := SatL.cell (hs2 : SatL _ (cl _ _ _ :: _)) (i := 0) (v := .int .i64 0) rfl
          have z1 := SatL.cell (hs2 : SatL _ (cl _ _ _ :: _)) (i := 1) (v := .int .i64 0) rfl
          have z2 := SatL.cell (hs2 : SatL _ (cl _ _ _ :: _)) (i := 2) (v := .int .i64 0) rfl
          have z3 := SatL.cell (hs2 : SatL _ (cl _ _ _ :: _)) (i := 3) (v := .slice none 0 0) rfl
          have f0 := SatL.free (hs2 : SatL _ (cl _ _ _ :: _)) 0
          have f1 := SatL.free (hs2 : SatL _ (cl _ _ _ :: _)) 1
          have f2 := SatL.free (hs2 : SatL _ (cl _ _ _ :: _)) 2
          have f3 := SatL.free (hs2 : SatL _ (cl _ _ _ :: _)) 3
          generalize ls[x].b = xb at *
          have hA := hs1.alloc (.cells #[.int .i64 1, .int .i64 (s.start + xb), .int .i64 0, .slice none 0 0] 80)
          have hB := (((((hs2 : SatL _ (cl _ _ _ :: _)).set (i := 0) (.int .i64 1)).set (i := 1) (.int .i64 (s.start + xb))).set (i := 2) (.int .i64 0)).set (i := 3) (.slice none 0 0))
          obtain ⟨q1, q2⟩ := hst
          clear hp hsn hx hmm hmb hrs hs
          go_upto_region 16 with fail
          go_cut [9] from 89 to 99 (fun r9 wr => ∃ qb : Nat, r9 = .pointer (some ⟨qb, 0, none⟩) ∧ SatL wr (cl qb 80 #[.int .i64 1, .int .i64 (s.start + xb), .int .i64 0, .slice none 0 0] :: ReqsR (.slice ra rs.length rc) rs :: cl pb 121 (entCells lv m (.slice na qs.length nc) mv (.slice ra rs.length rc) s 3) :: PutsR (.slice (some ⟨lb, lo, none⟩) ls.length lc) ls :: PutsR (.slice na qs.length nc) qs :: PutsL lv s.L :: GrpOf m (s.L.map (·.1)) :: GrpN mv (s.N.map (·.1)) :: L))
          case first =>
            go_region
            all_goals
              go_wp2
              go_meet
              exact ⟨_, rfl, by first | exact hA | exact hB⟩
          case rest =>
            clear hs1 hs2 k8 kb j8 jb z0 z1 z2 z3 f0 f1 f2 f3 hA hB hb0 hb1 hpd
            obtain ⟨qb, rfl, hs3⟩ := hcut
            have hs4 : SatL wc (cl qb 80 #[.int .i64 1, .int .i64 (s.start + xb), .int .i64 0, .slice none 0 0] :: SlB 5 (.slice none 0 0) (flatFrom ls x 0) :: ReqsR (.slice ra rs.length rc) rs :: cl pb 121 (entCells lv m (.slice na qs.length nc) mv (.slice ra rs.length rc) s 3) :: PutsR (.slice (some ⟨lb, lo, none⟩) ls.length lc) ls :: PutsR (.slice na qs.length nc) qs :: PutsL lv s.L :: GrpOf m (s.L.map (·.1)) :: GrpN mv (s.N.map (·.1)) :: L) := (Sl_nil hs3).swap
            have x1 : (x : Int) ≤ 65 := by omega
            have x2 : (ls.length : Int) ≤ lc := by omega
            have x3 : x < lc := by omega
            have x4 : (lc : Int) ≤ 9223372036854775807 := by omega
            go_upto_region 17 with fail
            go_cut [107, 108, 109] from 100 to 109 (fun a b d wx => a = .slice (some ⟨lb, lo + x * 2, none⟩) mm (lc - x) ∧ b = .int .i64 mm ∧ d = .int .i64 0 ∧ wx = wc)
            case first =>
              clear hs3 hs4
              rcases hmc with ⟨y1, rfl⟩ | ⟨y1, rfl⟩
              · have y2 : (ls.length : Int) < (x : Int) + 16 := by omega
                have y3 : (x : Int) ≤ ls.length := by omega
                go_wp2
                go_meet
                exact ⟨rfl, rfl, rfl, rfl⟩
              · have y2 : ¬ (ls.length : Int) < (x : Int) + 16 := by omega
                have y3 : (x : Int) + 16 ≤ lc := by omega
                have y4 : x + 16 - x = 16 := by omega
                go_wp2
                go_meet
                exact ⟨by simp, by simp, rfl, rfl⟩
            case rest =>
              obtain ⟨rfl, rfl, rfl, rfl⟩ := hcut
              clear hs3 x1 x2 x3 x4 hmc
              go_wp2
              go_loopw [109] (fun kv wr => ∃ (k : Nat) (dv : Value), k ≤ mm ∧ kv = .int .i64 k ∧ SatL wr (cl qb 80 #[.int .i64 1, .int .i64 (s.start + xb), .int .i64 0, dv] :: SlB 5 dv (flatFrom ls x k) :: ReqsR (.slice ra rs.length rc) rs :: cl pb 121 (entCells lv m (.slice na qs.length nc) mv (.slice ra rs.length rc) s 3) :: PutsR (.slice (some ⟨lb, lo, none⟩) ls.length lc) ls :: PutsR (.slice na qs.length nc) qs :: PutsL lv s.L :: GrpOf m (s.L.map (·.1)) :: GrpN mv (s.N.map (·.1)) :: L)) (fun kv _ => mm - (intOf kv).toNat)
              case atStart => exact ⟨0, _, by omega, rfl, hs4⟩
              case round =>
                clear hs4
                obtain ⟨k, dv, hk, rfl, hs5⟩ := hrel
                obtain ⟨da, dc, rfl, d1, d2⟩ := SlB.valn (SatL.pull hs5 1 : SatL wr (SlB _ _ _ :: _))
                have hfl := flatFrom_len (fun p hp => (by have := (Hlm.out p hp).1; omega : p.d.length ≤ 512)) x k
                by_cases hkm : k < mm
                · have hxk : x + k < ls.length := by have := Hmb.out; omega
                  have hmm16 : mm ≤ 16 := Hmb.out.2
                  have hp : ls[x + k]? = some ls[x + k] := List.getElem?_eq_getElem hxk
                  have hpd := (Hlm.out _ (List.getElem_mem hxk)).1
                  obtain ⟨va, vc, hv, i1, i2⟩ := PutsR.ptsl (SatL.pull hs5 4 : SatL wr (PutsR _ _ :: _)) _ (List.getElem_mem hxk)
                  obtain ⟨k1, k2⟩ := PutsR.cell2 (SatL.pull hs5 4 : SatL wr (PutsR _ _ :: _)) hp
                  have e1 : lo + (x + k) * 2 = lo + x * 2 + k * 2 := by omega
                  rw [e1] at k1 k2
                  have hsx := hid (flatFrom_succ hp)
                  have hsrc := fun (w' : World) (L' : List HP) (h' : SatL w' (PutsR (.slice (some ⟨lb, lo, none⟩) ls.length lc) ls :: L')) => SrcOk.ofRdB (PutsR.rdb h' (List.getElem_mem hxk))
                  rw [hv, hpd] at k2 hsrc
                  have hs6 := hs5.alloc (.cells #[.int .i64 ls[x + k].b, .slice va 512 vc] 29)
                  generalize ls[x + k].b = kb at *
                  generalize ls[x + k].d = kd at *
                  have c3 := SatL.cell (SatL.pull hs6 1 : SatL _ (cl qb _ _ :: _)) (i := 3) (v := .slice da (flatFrom ls x k).length dc) rfl
                  have hs7 := (SatL.pull hs6 2 : SatL _ (SlB _ _ _ :: _))
                  have q0 := hsrc _ _ (SatL.pull hs6 5 : SatL _ (PutsR _ _ :: _))
                  generalize flatFrom ls x k = F at *
                  have l3 : ((bvs F).length + 512) * 1 ≤ 140737488355328 := by rw [bvs_len]; omega
                  have l4 : (bvs F).length + 512 ≤ maxLen := by unfold maxLen; omega
                  have hkz : (k : Int) < mm := by omega
                  clear hp hv hs5 hs6 hfl hsrc e1
                  go_wp2_with (at_builtin; refine wpList_append_sl rfl (.tmp 114) (.tmp 116) rfl elem_byte rfl (Sl.toK hs7 rfl) rfl q0 (bvs_one _) l3 l4 ?_; intro v5 w5 h8 _; have h9 := SlB.app (Sl.ofK h8); obtain ⟨fa, fc, hv5, _, _⟩ := SlB.valn h9; rw [List.length_append, hpd] at hv5; subst hv5; have c4 := SatL.cell (SatL.pull h9 2 : SatL w5 (cl qb _ _ :: _)) (i := 3) (v := .slice da F.length dc) rfl; have c5 := SatL.free (SatL.pull h9 2 : SatL w5 (cl qb _ _ :: _)) 3; have h10 := (SatL.pull h9 2 : SatL w5 (cl qb _ _ :: _)).set (i := 3) (.slice fa (F.length + 512) fc))
                  go_roundw
                  case rel => exact ⟨k + 1, _, by omega, by go_num, by rw [hsx.out]; exact SatL.tail (h10.bring [2, 0, 1])⟩
                  case measure => simp [intOf]; omega
                · obtain rfl : k = mm := by omega
                  have hs6 := sat_drew.2 hs5
                  have hs7 := sat_drew.2 (hs5.alloc (.cells #[.int .i64 1, .int .i64 (s.start + xb), .int .i64 0, .slice da (flatFrom ls x k).length dc] 80))
                  have hs8 : SatL wr.drew (ReqsR (.slice ra rs.length rc) rs :: SlB 5 (.slice da (flatFrom ls x k).length dc) (flatFrom ls x k) :: cl qb 80 #[.int .i64 1, .int .i64 (s.start + xb), .int .i64 0, .slice da (flatFrom ls x k).length dc] :: cl pb 121 (entCells lv m (.slice na qs.length nc) mv (.slice ra rs.length rc) s 3) :: PutsR (.slice (some ⟨lb, lo, none⟩) ls.length lc) ls :: PutsR (.slice na qs.length nc) qs :: PutsL lv s.L :: GrpOf m (s.L.map (·.1)) :: GrpN mv (s.N.map (·.1)) :: L) := hs6.bring [2, 1, 0]
                  generalize flatFrom ls x k = F at *
                  have g0 := SatL.cell (hs6 : SatL _ (cl qb _ _ :: _)) (i := 0) (v := .int .i64 1) rfl
                  have g1 := SatL.cell (hs6 : SatL _ (cl qb _ _ :: _)) (i := 1) (v := .int .i64 (s.start + xb)) rfl
                  have g2 := SatL.cell (hs6 : SatL _ (cl qb _ _ :: _)) (i := 2) (v := .int .i64 0) rfl
                  have g3 := SatL.cell (hs6 : SatL _ (cl qb _ _ :: _)) (i := 3) (v := .slice da F.length dc) rfl
                  have g5 := SatL.cell (SatL.pull hs6 3 : SatL _ (cl pb _ _ :: _)) (i := 5) (v := .slice ra rs.length rc) rfl
                  have y5 := SatL.cell (SatL.pull hs7 4 : SatL _ (cl pb _ _ :: _)) (i := 5) (v := .slice ra rs.length rc) rfl
                  clear hs5 hs6 hs7 hfl hkm
                  go_upto_region 22 with fail
                  go_region_law (first
                    | (refine step_oneReq (w := wr.drew) (nb := wr.heap.size) rfl rfl (.tmp 125) (.tmp 127) rfl rfl rfl rfl hs8 hrl ?_; intro v9 w9 h10; obtain ⟨oa9, oc9, hv9, _, _⟩ := SlK.valn (sat_ReqsR.1 h10); rw [List.length_append, List.length_cons, List.length_nil, Nat.zero_add] at hv9; subst hv9; have m0 := SatL.cell (SatL.pull h10 2 : SatL w9 (cl pb _ _ :: _)) (i := 5) (v := .slice ra rs.length rc) rfl; have m1 := SatL.free (SatL.pull h10 2 : SatL w9 (cl pb _ _ :: _)) 5; have h11 := (SatL.pull h10 2 : SatL w9 (cl pb _ _ :: _)).set (i := 5) (.slice oa9 (rs.length + 1) oc9))
                    | fail "no")
                  all_goals
                    have h12 := SatL.tail (h11.bring [2, 1, 0])
                    go_wp2
                    go_roundw
                    case rel => exact ⟨c + 1, x + 16, _, _, by have := Hx.out; omega, by have := Hx.out; omega, by go_num, by rw [rqs_snoc]; exact Hsn.out, h12⟩
                    case measure => simp [intOf]; omega
        · have hcc : c = (ls.length + 15) / 16 := by omega
          have e9 : rqs rs = reqsOf s 3 := by
            rw [hrs, hcc, Hlp.out, Hln.out]; rfl
          have h8 := sat_ReqsL.2 ⟨rs, e9, hs⟩
          have h9 := sat_PutsL.2 ⟨qs, Hqs.out, (SatL.pull h8 3 : SatL wr (PutsR _ _ :: _))⟩
          have hH := ent_fin Hf.out (SatL.tail (h9.bring [3, 2, 1, 4, 5, 0, 6]))
          have hxz : ¬ (x : Int) < ls.length := by omega
          clear hs h8 h9 e9 hrs hx
          go_wp2
          go_end0
          exact Ret.mk hH
end
end Go.Proofs.Ytjjnadlklfegcaa
