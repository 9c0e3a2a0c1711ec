/- WalPlays: whatever joins, and however requests are made and done, both logs answer alike. No condition. -/
import Derived.Test.YtjjnadlklfegcaaWalReq
import Derived.Test.YtjjnadlklfegcaaWalEnt
import Derived.StillTailTactics
import Derived.Deep.RegionLaw
import Derived.Test.YtjjnadlklfegcaaWalEnt7
import Derived.Test.YtjjnadlklfegcaaWalRef
import Derived.Deep.RegionHeld
import Derived.Test.YtjjnadlklfegcaaCopyPuts
import Derived.Test.YtjjnadlklfegcaaLaw8B
import Derived.Deep.RegionHeld3
import Derived.Test.YtjjnadlklfegcaaLaw8K
namespace Go.Proofs.Ytjjnadlklfegcaa
set_option linter.unusedVariables false
set_option linter.unusedSimpArgs false
open Go.RowKit

section
variable {w : World} {l : List HP} {T k n : Nat} {xs : List Value}
theorem SlK.slice3 {b off cap : Nat} (h : SatL w (SlK T k (.slice (some ⟨b, off, none⟩) n cap) n xs :: l)) {i j m : Nat} (hij : i ≤ j) (hj : j ≤ n) (hm : j ≤ m) (hmc : m ≤ cap) :
    SatL w (SlK T k (.slice (some ⟨b, off + i * k, none⟩) (j - i) (m - i)) (j - i) ((xs.take (j * k)).drop (i * k)) :: l) := by
  rcases sat_SlK.1 h with ⟨h1, _⟩ | ⟨b', off', cap', arr, ⟨h1, h2, h3, h4, h5, h6⟩, hs⟩
  · cases h1
  · cases h1
    have hjn : j * k ≤ n * k := Nat.mul_le_mul_right _ hj
    have hl : ((xs.take (j * k)).drop (i * k)).length = (j - i) * k := by simp [Nat.sub_mul]; omega
    have hik : i * k ≤ j * k := Nat.mul_le_mul_right _ hij
    have hnc : n * k ≤ cap * k := Nat.mul_le_mul_right _ h2
    have hmk : m * k ≤ cap * k := Nat.mul_le_mul_right _ hmc
    have hjm : j * k ≤ m * k := Nat.mul_le_mul_right _ hm
    refine sat_SlK.2 (.inr ⟨b, off + i * k, m - i, arr, ⟨rfl, by omega, by omega, hl, by rw [Nat.sub_mul]; omega, ?_⟩, hs⟩)
    apply List.ext_getElem?
    intro q
    have hk := congrArg (fun z => z[i * k + q]?) h6
    simp only [List.getElem?_take, List.getElem?_drop, Nat.sub_mul] at hk ⊢
    by_cases hkl : q < j * k - i * k
    · rw [if_pos hkl, if_pos (by omega)]; rw [if_pos (by omega)] at hk
      rw [← hk, Nat.add_assoc]
    · rw [if_neg hkl, if_neg (by omega)]
theorem PutsR.rest {b off c : Nat} {p : Pt} {ps : List Pt} (h : SatL w (PutsR (.slice (some ⟨b, off, none⟩) (ps.length + 1) c) (p :: ps) :: l)) :
    SatL w (PutsR (.slice (some ⟨b, off + 2, none⟩) ps.length ps.length) ps :: l) := by
  have h1 := sat_PutsR.1 h
  obtain ⟨_, _, e, h2, _⟩ := SlK.valn h1
  have e1 := e
  injection e1 with _ _ e2
  have h3 := SlK.slice3 (i := 1) (j := ps.length + 1) (m := ps.length + 1) h1 (by omega) (by simp) (Nat.le_refl _) (by rw [e2]; simpa using h2)
  have e3 : ((pcells (p :: ps)).take ((ps.length + 1) * 2)).drop (1 * 2) = pcells ps := by
    rw [List.take_of_length_le (by rw [pcells_len, List.length_cons]; omega)]; rfl
  rw [e3, Nat.one_mul, Nat.add_sub_cancel] at h3
  have h4 := (big_cons.1 h3.swap).tail
  exact sat_PutsR.2 h4.swap
end
theorem recAll_tail (s : Nat) (l : List PD) : (recAll s l).drop 1 = inRow 1 l ++ [recEnd s l] := rfl
/-- the bytes of the blocks from i on, as far as k -/
def flatFrom (ls : List Pt) (i k : Nat) : List UInt8 := (((ls.drop i).take k).map (·.d)).flatten
theorem flatFrom_succ {ls : List Pt} {i k : Nat} {p : Pt} (h : ls[i + k]? = some p) : flatFrom ls i (k + 1) = flatFrom ls i k ++ p.d := by
  unfold flatFrom
  rw [List.take_add_one, List.getElem?_drop, h]
  simp only [Option.toList_some, List.map_append, List.flatten_append, List.map_cons, List.map_nil, List.flatten_cons, List.flatten_nil, List.append_nil]
theorem flatFrom_len {ls : List Pt} (h : ∀ p ∈ ls, p.d.length ≤ 512) (i : Nat) : ∀ k, (flatFrom ls i k).length ≤ 512 * k
  | 0 => by simp [flatFrom]
  | k + 1 => by
    cases hp : ls[i + k]? with
    | some p =>
      have h1 := flatFrom_len h i k
      have h2 := h p (List.mem_of_getElem? hp)
      rw [flatFrom_succ hp, List.length_append]; omega
    | none =>
      have h1 := flatFrom_len h i k
      have e : flatFrom ls i (k + 1) = flatFrom ls i k := by unfold flatFrom; rw [List.take_add_one, List.getElem?_drop, hp]; simp
      rw [e]; omega
theorem wreq_of (start : Int) {ls : List Pt} {i m : Nat} {p : Pt} (h : ls[i]? = some p) (hm : m = min 16 (ls.length - i)) : wreq start (pds ls) i = ⟨1, start + p.b, 0, flatFrom ls i m⟩ := by
  unfold wreq flatFrom
  rw [pds_get h]
  have e : ((pds ls).drop i).take 16 = (pds ls |>.drop i).take m := by
    rw [hm]
    rcases Nat.le_total 16 (ls.length - i) with h2 | h2
    · rw [Nat.min_eq_left h2]
    · rw [Nat.min_eq_right h2, List.take_of_length_le (by simp; omega), List.take_of_length_le (by simp)]
  rw [e, ← List.map_drop, ← List.map_take, List.map_map]
  rfl
theorem wreqs_snoc (start : Int) (ls : List PD) (c : Nat) : wreqs start ls (c + 1) = wreqs start ls c ++ [wreq start ls (16 * c)] := by simp [wreqs, List.range_succ]
end Go.Proofs.Ytjjnadlklfegcaa

namespace Go.Proofs.Ytjjnadlklfegcaa
set_option linter.unusedVariables false
set_option linter.unusedSimpArgs false
open Go.RowKit

section
variable {w : World} {L : List HP} {pb : Nat} {s : LogS}
set_option maxRecDepth 100000 in
set_option maxHeartbeats 8000000 in
theorem enter3_ok {p : Nat} (hp : p = 3) (hq : s.seq < 18446744073709551616) (hst : 0 ≤ s.start ∧ s.start ≤ 4611686018427387904) (hN : recErr s.N = 0) (h : SatL w (LogR pb s :: L)) :
    Calls Try.prog 58 #[.pointer (some ⟨pb, 0, none⟩), .int .i64 p] w (Ret fun r w' => SatL w' (LogR pb (s.enter p) :: L)) := by
  have Hp := hid hp
  have hp8 : p ≤ 8 := by omega
  clear hp
  obtain ⟨lv, m, nv, mv, rv, hf, h1⟩ := sat_LogR.1 h
  have hNl := hf.2.1
  have h2 := (((h1.set (i := 4) (.int .i64 p)).set (i := 5) (.slice none 0 0)).set (i := 6) (.int .i64 0)).set (i := 7) (.int .i64 0)
  have c4 : w.cell? ⟨pb, 4, none⟩ = some (.int .i64 s.phase) := h1.cell (i := 4) rfl
  have f4 := h1.free 4
  have c5 : w.cell? ⟨pb, 5, none⟩ = some rv := h1.cell (i := 5) rfl
  have f5 := h1.free 5
  have c6 : w.cell? ⟨pb, 6, none⟩ = some (.int .i64 s.told) := h1.cell (i := 6) rfl
  have f6 := h1.free 6
  have c7 : w.cell? ⟨pb, 7, none⟩ = some (.int .i64 s.don) := h1.cell (i := 7) rfl
  have f7 := h1.free 7
  have e2 : (((((logCells lv m nv mv rv s).setIfInBounds 4 (.int .i64 p)).setIfInBounds 5 (.slice none 0 0)).setIfInBounds 6 (.int .i64 0)).setIfInBounds 7 (.int .i64 0)) = entCells lv m nv mv (.slice none 0 0) s p := rfl
  rw [e2] at h2
  clear h h1 e2
  go_enter Try.func58, Try.ntmps58
  go_upto_region 1 with fail
  generalize (((w.setCell ⟨pb, 4, none⟩ (.int .i64 p)).setCell ⟨pb, 5, none⟩ (.slice none 0 0)).setCell ⟨pb, 6, none⟩ (.int .i64 0)).setCell ⟨pb, 7, none⟩ (.int .i64 0) = w1 at *
  clear c4 f4 c5 f5 c6 f6 c7 f7
  obtain ⟨qs, hqs, h3⟩ := sat_PutsL.1 (SatL.pull h2 3 : SatL w1 (PutsL _ _ :: _))
  have hrec := fun (w' : World) (L' : List HP) (h : SatL w' (PutsR nv qs :: L')) => record_of (seq := s.seq) hq hqs (show recLast s.seq s.N = (((1 + s.N.length : Nat) : Int), endB s.seq s.N) by unfold recLast; rw [if_pos hN]; rfl) hN (show recOut s.seq s.N = recRows s.seq s.N by unfold recOut; rw [if_pos hN]) (by omega) h
  obtain ⟨tb, htb⟩ : ∃ tb : Int, tb = ((1 + s.N.length : Nat) : Int) := ⟨_, rfl⟩
  rw [← htb] at hrec
  have hA := sat_drew.2 h3
  have hB := sat_drew.2 ((h3.alloc (.cells #[.int .i64 0, .slice none 0 0] 29)).swap)
  obtain ⟨na, nc, rfl, n1, n2⟩ := (PutsR.rdpts h3).1.valn
  have a0 : w1.drew.cell? ⟨pb, 9, none⟩ = some (.int .u64 s.seq) ∧ w1.drew.cell? ⟨pb, 2, none⟩ = some (.slice na qs.length nc) := ⟨SatL.cell (SatL.pull hA 1 : SatL _ (cl _ _ _ :: _)) (i := 9) rfl, SatL.cell (SatL.pull hA 1 : SatL _ (cl _ _ _ :: _)) (i := 2) rfl⟩
  have b0 : (w1.alloc (.cells #[.int .i64 0, .slice none 0 0] 29)).drew.cell? ⟨pb, 9, none⟩ = some (.int .u64 s.seq) ∧ (w1.alloc (.cells #[.int .i64 0, .slice none 0 0] 29)).drew.cell? ⟨pb, 2, none⟩ = some (.slice na qs.length nc) := ⟨SatL.cell (SatL.pull hB 2 : SatL _ (cl _ _ _ :: _)) (i := 9) rfl, SatL.cell (SatL.pull hB 2 : SatL _ (cl _ _ _ :: _)) (i := 2) rfl⟩
  have hqz : ((p : Nat) : Int) ≤ 8 := by omega
  have Hqs := hid hqs
  have HN := hid hN
  have Htb := hid htb
  have Hf := hid hf
  clear h2 h3 hqs hN htb hf
  go_cut [4, 5] from 32 to 45 (fun r4 r5 wr => ∃ (oa : Option Addr) (on oc eb : Nat) (ea : Option Addr) (en ec : Nat), r4 = .slice oa on oc ∧ r5 = .pointer (some ⟨eb, 0, none⟩) ∧ SatL wr (PutsL (.slice oa on oc) (recRows s.seq s.N) :: SlB 5 (.slice ea en ec) (endB s.seq s.N) :: cl eb 29 #[.int .i64 tb, .slice ea en ec] :: PutsR (.slice na qs.length nc) qs :: cl pb 121 (entCells lv m (.slice na qs.length nc) mv (.slice none 0 0) s p) :: PutsL lv s.L :: GrpOf m (s.L.map (·.1)) :: GrpN mv (s.N.map (·.1)) :: L))
  case first =>
    go_region_held (fun w' => w'.cell? ⟨pb, 9, none⟩ = some (.int .u64 s.seq) ∧ w'.cell? ⟨pb, 2, none⟩ = some (.slice na qs.length nc))
      (first | with_reducible exact a0 | with_reducible exact b0 | with_reducible exact m2 | with_reducible exact m2B | with_reducible exact m3 | with_reducible exact m4 | go_keep)
      (first
        | (go_at_call 13; first
            | ((with_reducible refine (hrec _ _ hA).mono ?_); rintro e w2 ⟨v2, rfl, ov, ea, en, ec, rfl, hC⟩; have m2 : w2.cell? ⟨pb, 9, none⟩ = some (.int .u64 s.seq) ∧ w2.cell? ⟨pb, 2, none⟩ = some (.slice na qs.length nc) := ⟨SatL.cell (SatL.pull hC 3 : SatL _ (cl _ _ _ :: _)) (i := 9) rfl, SatL.cell (SatL.pull hC 3 : SatL _ (cl _ _ _ :: _)) (i := 2) rfl⟩; have hE := hC.alloc (.cells #[.int .i64 0, .slice none 0 0] 29); have m3 : (w2.alloc (.cells #[.int .i64 0, .slice none 0 0] 29)).cell? ⟨pb, 9, none⟩ = some (.int .u64 s.seq) ∧ (w2.alloc (.cells #[.int .i64 0, .slice none 0 0] 29)).cell? ⟨pb, 2, none⟩ = some (.slice na qs.length nc) := ⟨SatL.cell (SatL.pull hE 4 : SatL _ (cl _ _ _ :: _)) (i := 9) rfl, SatL.cell (SatL.pull hE 4 : SatL _ (cl _ _ _ :: _)) (i := 2) rfl⟩; obtain ⟨oa, oc, rfl, o1, o2⟩ := PutsL.valn hC; have z0 := SatL.cell (hE : SatL _ (cl _ _ _ :: _)) (i := 0) rfl; have f0 := SatL.free (hE : SatL _ (cl _ _ _ :: _)) 0; have z1 := SatL.cell (hE : SatL _ (cl _ _ _ :: _)) (i := 1) rfl; have f1 := SatL.free (hE : SatL _ (cl _ _ _ :: _)) 1; have hG := hC.alloc (.cells #[.int .i64 tb, .slice ea en ec] 29); have m4 := (⟨SatL.cell (SatL.pull hG 4 : SatL _ (cl _ _ _ :: _)) (i := 9) (v := .int .u64 s.seq) rfl, SatL.cell (SatL.pull hG 4 : SatL _ (cl _ _ _ :: _)) (i := 2) (v := .slice na qs.length nc) rfl⟩ : _ ∧ _))
            | ((with_reducible refine (hrec _ _ hB).mono ?_); rintro e w2 ⟨v2, rfl, ov, ea, en, ec, rfl, hC⟩; have m2B : w2.cell? ⟨pb, 9, none⟩ = some (.int .u64 s.seq) ∧ w2.cell? ⟨pb, 2, none⟩ = some (.slice na qs.length nc) := ⟨SatL.cell (SatL.pull hC 4 : SatL _ (cl _ _ _ :: _)) (i := 9) rfl, SatL.cell (SatL.pull hC 4 : SatL _ (cl _ _ _ :: _)) (i := 2) rfl⟩; have hE := (SatL.pull hC 3 : SatL _ (cl _ _ _ :: _)); obtain ⟨oa, oc, rfl, o1, o2⟩ := PutsL.valn hC; have z0 := SatL.cell (hE : SatL _ (cl _ _ _ :: _)) (i := 0) rfl; have f0 := SatL.free (hE : SatL _ (cl _ _ _ :: _)) 0; have z1 := SatL.cell (hE : SatL _ (cl _ _ _ :: _)) (i := 1) rfl; have f1 := SatL.free (hE : SatL _ (cl _ _ _ :: _)) 1; have hG := put_chain (.int .i64 tb) (.slice ea en ec) hE; have m4 := (⟨SatL.cell (SatL.pull hG 4 : SatL _ (cl _ _ _ :: _)) (i := 9) (v := .int .u64 s.seq) rfl, SatL.cell (SatL.pull hG 4 : SatL _ (cl _ _ _ :: _)) (i := 2) (v := .slice na qs.length nc) rfl⟩ : _ ∧ _))))
    all_goals
      go_wp2
      go_meet
      exact ⟨_, _, _, _, _, _, _, rfl, rfl, SatL.tail (hG.bring [8, 1, 2, 0, 3, 4, 5, 6, 7])⟩
  case rest =>
    obtain ⟨oa, on, oc, eb, ea, en, ec, rfl, rfl, h5⟩ := hcut
    have hp := Hp.out
    subst hp
    obtain ⟨rs, hrs, h6⟩ := sat_PutsL.1 h5
    obtain ⟨hv, rt, rfl, hrt⟩ := rows_head hrs
    obtain ⟨ra, rc, hro, r1, r2⟩ := (PutsR.rdpts h6).1.valn
    cases hro
    obtain ⟨rb, ro, rfl, _⟩ := (PutsR.rdpts h6).1.at (by simp)
    have hrn : rt.length = s.N.length := by have := congrArg List.length hrt; rw [List.length_map] at this; rw [this]; simp [inRow]
    have hon : (({ b := 0, v := hv, d := headB s.seq s.N } : Pt) :: rt).length = rt.length + 1 := rfl
    rw [hon] at h6 r1
    have g6 := SlB.rd (SatL.pull h6 1 : SatL wc (SlB _ _ _ :: _))
    have g7 := g6.valn
    rw [show (endB s.seq s.N).length = 512 from endOf_len _ _] at g7
    obtain ⟨ea', ec', hee, i1, i2⟩ := g7
    cases hee
    have h7 := PutsR.rest h6
    have h8 : SatL wc.drew (PutsR (.slice (some ⟨rb, ro + 2, none⟩) rt.length rt.length) rt :: SlB 5 (.slice ea 512 ec) (endB s.seq s.N) :: cl eb 29 #[.int .i64 tb, .slice ea 512 ec] :: PutsR (.slice na qs.length nc) qs :: cl pb 121 (entCells lv m (.slice na qs.length nc) mv (.slice none 0 0) s 3) :: PutsL lv s.L :: GrpOf m (s.L.map (·.1)) :: GrpN mv (s.N.map (·.1)) :: L) := sat_drew.2 h7
    have t0 := SatL.cell (SatL.pull h8 2 : SatL _ (cl _ _ _ :: _)) (i := 0) (v := .int .i64 tb) rfl
    have t1 := SatL.cell (SatL.pull h8 2 : SatL _ (cl _ _ _ :: _)) (i := 1) (v := .slice ea 512 ec) rfl
    have hrl : rt.length ≤ 1000000 := by omega
    have b1 : (rt.length : Int) + 1 ≤ oc := by omega
    have b0 : (0 : Int) ≤ (rt.length : Int) + 1 := by omega
    have b7 : 1 < rt.length + 1 := by rw [hrn]; have := List.length_pos_iff.2 (show s.N ≠ [] from fun e => by have h9 := HN.out; rw [e] at h9; exact absurd h9 (by decide)); omega
    have b2 : (oc : Int) ≤ 9223372036854775807 := by omega
    have b3 : (1 : Int) ≤ (rt.length : Int) + 1 := by omega
    have Hrn := hid hrn
    have hN1 : s.N ≠ [] := by
      intro e
      have h9 := HN.out
      rw [e] at h9
      exact absurd h9 (by decide)
    have b4 : 0 < rt.length := by rw [hrn]; exact List.length_pos_iff.2 hN1
    have b5 : ¬ rt.length = 0 := by omega
    clear h5 h6 h7 hrec hA hB a0 g6 hon hrs hrn hN1
    go_upto_region 12 with fail
    go_cut [7] from 74 to 82 (fun r7 wr => SatL wr (PutsR r7 (rt ++ [⟨tb, .slice ea 512 ec, endB s.seq s.N⟩]) :: cl eb 29 #[.int .i64 tb, .slice ea 512 ec] :: PutsR (.slice na qs.length nc) qs :: cl pb 121 (entCells lv m (.slice na qs.length nc) mv (.slice none 0 0) s 3) :: PutsL lv s.L :: GrpOf m (s.L.map (·.1)) :: GrpN mv (s.N.map (·.1)) :: L))
    case first =>
      go_region_law (first
        | (refine step_onePut_new (w := wc.drew) (nb := wc.heap.size) rfl rfl (.tmp 79) (.tmp 81) rfl rfl rfl rfl h8 hrl ?_; intro v9 w9 h9)
        | fail "no")
      all_goals
        go_wp2
        go_meet
        exact h9
    case rest =>
      clear h8 t0 t1 b1 b0 b2 b3 b4 b5 b7 r1 r2 i1 i2 hrl hp8 hqz n1 n2 Hp
      obtain ⟨ls, hls⟩ : ∃ ls, ls = rt ++ [(⟨tb, .slice ea 512 ec, endB s.seq s.N⟩ : Pt)] := ⟨_, rfl⟩
      rw [← hls] at hcut
      have hlp : pds ls = (recAll s.seq s.N).drop 1 := by rw [hls, pds_snoc, hrt, Htb.out]; rfl
      have hln : ls.length = s.N.length + 1 := by rw [hls, List.length_append, Hrn.out]; rfl
      have hlm : ∀ p ∈ ls, p.d.length = 512 ∧ 0 ≤ p.b ∧ p.b ≤ 65 := by
        intro p hp
        rw [hls] at hp
        rcases List.mem_append.1 hp with hp | hp
        · have h1 : (p.b, p.d) ∈ inRow 1 s.N := by rw [← hrt]; exact List.mem_map_of_mem hp
          obtain ⟨i, q, hq, he⟩ := inRow_mem h1
          injection he with e1 e2
          have hi := (List.getElem?_eq_some_iff.1 hq).1
          refine ⟨by rw [e2]; exact Hf.out.2.len q (List.mem_of_getElem? hq), by omega, by omega⟩
        · rw [List.mem_singleton.1 hp]
          have := Htb.out
          exact ⟨endOf_len _ _, by simp only; omega, by simp only; omega⟩
      have Hlp := hid hlp
      have Hlm := hid hlm
      have Hln := hid hln
      have hl66 : ls.length ≤ 65 := by omega
      have hl0 : 0 < ls.length := by omega
      obtain ⟨la, lc, rfl, l1, l2⟩ := (PutsR.rdpts hcut).1.valn
      obtain ⟨lb, lo, rfl, _⟩ := (PutsR.rdpts hcut).1.at hl0
      have hs0 : SatL wc (ReqsR (.slice none 0 0) [] :: cl pb 121 (entCells lv m (.slice na qs.length nc) mv (.slice none 0 0) s 3) :: PutsR (.slice (some ⟨lb, lo, none⟩) ls.length lc) ls :: PutsR (.slice na qs.length nc) qs :: PutsL lv s.L :: GrpOf m (s.L.map (·.1)) :: GrpN mv (s.N.map (·.1)) :: L) :=
        sat_ReqsR.2 (SlK_nil ((big_nil (f := fun r : Rp => SlB 5 r.v r.d)).2 (SatL.tail (hcut.bring [1, 3, 0]))))
      clear hcut hls hrt hlp hlm hln Hrn
      go_wp2
      go_loopw [8] (fun iv wr => ∃ (c x : Nat) (rv : Value) (rs : List Rp), x = 16 * c ∧ c ≤ (ls.length + 15) / 16 ∧ iv = .int .i64 x ∧ rqs rs = wreqs s.start (pds ls) c ∧ SatL wr (ReqsR rv rs :: cl pb 121 (entCells lv m (.slice na qs.length nc) mv rv s 3) :: PutsR (.slice (some ⟨lb, lo, none⟩) ls.length lc) ls :: PutsR (.slice na qs.length nc) qs :: PutsL lv s.L :: GrpOf m (s.L.map (·.1)) :: GrpN mv (s.N.map (·.1)) :: L)) (fun iv _ => ls.length - (intOf iv).toNat)
      case atStart => exact ⟨0, 0, _, [], by omega, by omega, rfl, rfl, hs0⟩
      case round =>
        clear hs0
        obtain ⟨c, x, rv, rs, hx, hc, rfl, hrs, hs⟩ := hrel
        obtain ⟨ra, rc, rfl, r1, r2⟩ := SlK.valn (sat_ReqsR.1 hs)
        by_cases hlt : x < ls.length
        · have hp : ls[x]? = some ls[x] := List.getElem?_eq_getElem hlt
          obtain ⟨hpd, hb0, hb1⟩ := Hlm.out _ (List.getElem_mem hlt)
          obtain ⟨mm, hmm⟩ : ∃ mm, mm = min 16 (ls.length - x) := ⟨_, rfl⟩
          have hrl : rs.length ≤ 1000000 := by
            have := congrArg List.length hrs
            rw [List.length_map] at this
            rw [this]; simp [wreqs]; omega
          have hsn : rqs rs ++ [⟨1, s.start + ls[x].b, 0, flatFrom ls x mm⟩] = wreqs s.start (pds ls) (c + 1) := by
            rw [wreqs_snoc, ← hx, wreq_of s.start hp hmm, hrs]
          have Hsn := hid hsn
          have Hx := hid hx
          have Hmm := hid hmm
          have hmb : x + mm ≤ ls.length ∧ mm ≤ 16 := by omega
          have Hmb := hid hmb
          have hmc : (ls.length < x + 16 ∧ mm = ls.length - x) ∨ (x + 16 ≤ ls.length ∧ mm = 16) := by omega
          have hxz : (x : Int) < ls.length := by omega
          have hs1 := sat_drew.2 hs
          have hs2 := sat_drew.2 (hs.alloc (.cells #[.int .i64 0, .int .i64 0, .int .i64 0, .slice none 0 0] 80))
          have k8 := SatL.cell (SatL.pull hs1 1 : SatL _ (cl pb _ _ :: _)) (i := 8) (v := .int .i64 s.start) rfl
          have kb := (PutsR.cell2 (SatL.pull hs1 2 : SatL _ (PutsR _ _ :: _)) hp).1
          have j8 := SatL.cell (SatL.pull hs2 2 : SatL _ (cl pb _ _ :: _)) (i := 8) (v := .int .i64 s.start) rfl
          have jb := (PutsR.cell2 (SatL.pull hs2 3 : SatL _ (PutsR _ _ :: _)) hp).1
          have z0 := SatL.cell (hs2 : SatL _ (cl _ _ _ :: _)) (i := 0) (v := .int .i64 0) rfl
          have z1 := SatL.cell (hs2 : SatL _ (cl _ _ _ :: _)) (i := 1) (v := .int .i64 0) rfl
          have z2 := SatL.cell (hs2 : SatL _ (cl _ _ _ :: _)) (i := 2) (v := .int .i64 0) rfl
          have z3 := SatL.cell (hs2 : SatL _ (cl _ _ _ :: _)) (i := 3) (v := .slice none 0 0) rfl
          have f0 := SatL.free (hs2 : SatL _ (cl _ _ _ :: _)) 0
          have f1 := SatL.free (hs2 : SatL _ (cl _ _ _ :: _)) 1
          have f2 := SatL.free (hs2 : SatL _ (cl _ _ _ :: _)) 2
          have f3 := SatL.free (hs2 : SatL _ (cl _ _ _ :: _)) 3
          generalize ls[x].b = xb at *
          have hA := hs1.alloc (.cells #[.int .i64 1, .int .i64 (s.start + xb), .int .i64 0, .slice none 0 0] 80)
          have hB := (((((hs2 : SatL _ (cl _ _ _ :: _)).set (i := 0) (.int .i64 1)).set (i := 1) (.int .i64 (s.start + xb))).set (i := 2) (.int .i64 0)).set (i := 3) (.slice none 0 0))
          obtain ⟨q1, q2⟩ := hst
          clear hp hsn hx hmm hmb hrs hs
          go_upto_region 16 with fail
          go_cut [9] from 89 to 99 (fun r9 wr => ∃ qb : Nat, r9 = .pointer (some ⟨qb, 0, none⟩) ∧ SatL wr (cl qb 80 #[.int .i64 1, .int .i64 (s.start + xb), .int .i64 0, .slice none 0 0] :: ReqsR (.slice ra rs.length rc) rs :: cl pb 121 (entCells lv m (.slice na qs.length nc) mv (.slice ra rs.length rc) s 3) :: PutsR (.slice (some ⟨lb, lo, none⟩) ls.length lc) ls :: PutsR (.slice na qs.length nc) qs :: PutsL lv s.L :: GrpOf m (s.L.map (·.1)) :: GrpN mv (s.N.map (·.1)) :: L))
          case first =>
            go_region
            all_goals
              go_wp2
              go_meet
              exact ⟨_, rfl, by first | exact hA | exact hB⟩
          case rest =>
            clear hs1 hs2 k8 kb j8 jb z0 z1 z2 z3 f0 f1 f2 f3 hA hB hb0 hb1 hpd
            obtain ⟨qb, rfl, hs3⟩ := hcut
            have hs4 : SatL wc (cl qb 80 #[.int .i64 1, .int .i64 (s.start + xb), .int .i64 0, .slice none 0 0] :: SlB 5 (.slice none 0 0) (flatFrom ls x 0) :: ReqsR (.slice ra rs.length rc) rs :: cl pb 121 (entCells lv m (.slice na qs.length nc) mv (.slice ra rs.length rc) s 3) :: PutsR (.slice (some ⟨lb, lo, none⟩) ls.length lc) ls :: PutsR (.slice na qs.length nc) qs :: PutsL lv s.L :: GrpOf m (s.L.map (·.1)) :: GrpN mv (s.N.map (·.1)) :: L) := (Sl_nil hs3).swap
            have x1 : (x : Int) ≤ 65 := by omega
            have x2 : (ls.length : Int) ≤ lc := by omega
            have x3 : x < lc := by omega
            have x4 : (lc : Int) ≤ 9223372036854775807 := by omega
            go_upto_region 17 with fail
            go_cut [107, 108, 109] from 100 to 109 (fun a b d wx => a = .slice (some ⟨lb, lo + x * 2, none⟩) mm (lc - x) ∧ b = .int .i64 mm ∧ d = .int .i64 0 ∧ wx = wc)
            case first =>
              clear hs3 hs4
              rcases hmc with ⟨y1, rfl⟩ | ⟨y1, rfl⟩
              · have y2 : (ls.length : Int) < (x : Int) + 16 := by omega
                have y3 : (x : Int) ≤ ls.length := by omega
                go_wp2
                go_meet
                exact ⟨rfl, rfl, rfl, rfl⟩
              · have y2 : ¬ (ls.length : Int) < (x : Int) + 16 := by omega
                have y3 : (x : Int) + 16 ≤ lc := by omega
                have y4 : x + 16 - x = 16 := by omega
                go_wp2
                go_meet
                exact ⟨by simp, by simp, rfl, rfl⟩
            case rest =>
              obtain ⟨rfl, rfl, rfl, rfl⟩ := hcut
              clear hs3 x1 x2 x3 x4 hmc
              go_wp2
              go_loopw [109] (fun kv wr => ∃ (k : Nat) (dv : Value), k ≤ mm ∧ kv = .int .i64 k ∧ SatL wr (cl qb 80 #[.int .i64 1, .int .i64 (s.start + xb), .int .i64 0, dv] :: SlB 5 dv (flatFrom ls x k) :: ReqsR (.slice ra rs.length rc) rs :: cl pb 121 (entCells lv m (.slice na qs.length nc) mv (.slice ra rs.length rc) s 3) :: PutsR (.slice (some ⟨lb, lo, none⟩) ls.length lc) ls :: PutsR (.slice na qs.length nc) qs :: PutsL lv s.L :: GrpOf m (s.L.map (·.1)) :: GrpN mv (s.N.map (·.1)) :: L)) (fun kv _ => mm - (intOf kv).toNat)
              case atStart => exact ⟨0, _, by omega, rfl, hs4⟩
              case round =>
                clear hs4
                obtain ⟨k, dv, hk, rfl, hs5⟩ := hrel
                obtain ⟨da, dc, rfl, d1, d2⟩ := SlB.valn (SatL.pull hs5 1 : SatL wr (SlB _ _ _ :: _))
                have hfl := flatFrom_len (fun p hp => (by have := (Hlm.out p hp).1; omega : p.d.length ≤ 512)) x k
                by_cases hkm : k < mm
                · have hxk : x + k < ls.length := by have := Hmb.out; omega
                  have hmm16 : mm ≤ 16 := Hmb.out.2
                  have hp : ls[x + k]? = some ls[x + k] := List.getElem?_eq_getElem hxk
                  have hpd := (Hlm.out _ (List.getElem_mem hxk)).1
                  obtain ⟨va, vc, hv, i1, i2⟩ := PutsR.ptsl (SatL.pull hs5 4 : SatL wr (PutsR _ _ :: _)) _ (List.getElem_mem hxk)
                  obtain ⟨k1, k2⟩ := PutsR.cell2 (SatL.pull hs5 4 : SatL wr (PutsR _ _ :: _)) hp
                  have e1 : lo + (x + k) * 2 = lo + x * 2 + k * 2 := by omega
                  rw [e1] at k1 k2
                  have hsx := hid (flatFrom_succ hp)
                  have hsrc := fun (w' : World) (L' : List HP) (h' : SatL w' (PutsR (.slice (some ⟨lb, lo, none⟩) ls.length lc) ls :: L')) => SrcOk.ofRdB (PutsR.rdb h' (List.getElem_mem hxk))
                  rw [hv, hpd] at k2 hsrc
                  have hs6 := hs5.alloc (.cells #[.int .i64 ls[x + k].b, .slice va 512 vc] 29)
                  generalize ls[x + k].b = kb at *
                  generalize ls[x + k].d = kd at *
                  have c3 := SatL.cell (SatL.pull hs6 1 : SatL _ (cl qb _ _ :: _)) (i := 3) (v := .slice da (flatFrom ls x k).length dc) rfl
                  have hs7 := (SatL.pull hs6 2 : SatL _ (SlB _ _ _ :: _))
                  have q0 := hsrc _ _ (SatL.pull hs6 5 : SatL _ (PutsR _ _ :: _))
                  generalize flatFrom ls x k = F at *
                  have l3 : ((bvs F).length + 512) * 1 ≤ 140737488355328 := by rw [bvs_len]; omega
                  have l4 : (bvs F).length + 512 ≤ maxLen := by unfold maxLen; omega
                  have hkz : (k : Int) < mm := by omega
                  clear hp hv hs5 hs6 hfl hsrc e1
                  go_wp2_with (at_builtin; refine wpList_append_sl rfl (.tmp 114) (.tmp 116) rfl elem_byte rfl (Sl.toK hs7 rfl) rfl q0 (bvs_one _) l3 l4 ?_; intro v5 w5 h8 _; have h9 := SlB.app (Sl.ofK h8); obtain ⟨fa, fc, hv5, _, _⟩ := SlB.valn h9; rw [List.length_append, hpd] at hv5; subst hv5; have c4 := SatL.cell (SatL.pull h9 2 : SatL w5 (cl qb _ _ :: _)) (i := 3) (v := .slice da F.length dc) rfl; have c5 := SatL.free (SatL.pull h9 2 : SatL w5 (cl qb _ _ :: _)) 3; have h10 := (SatL.pull h9 2 : SatL w5 (cl qb _ _ :: _)).set (i := 3) (.slice fa (F.length + 512) fc))
                  go_roundw
                  case rel => exact ⟨k + 1, _, by omega, by go_num, by rw [hsx.out]; exact SatL.tail (h10.bring [2, 0, 1])⟩
                  case measure => simp [intOf]; omega
                · obtain rfl : k = mm := by omega
                  have hs6 := sat_drew.2 hs5
                  have hs7 := sat_drew.2 (hs5.alloc (.cells #[.int .i64 1, .int .i64 (s.start + xb), .int .i64 0, .slice da (flatFrom ls x k).length dc] 80))
                  have hs8 : SatL wr.drew (ReqsR (.slice ra rs.length rc) rs :: SlB 5 (.slice da (flatFrom ls x k).length dc) (flatFrom ls x k) :: cl qb 80 #[.int .i64 1, .int .i64 (s.start + xb), .int .i64 0, .slice da (flatFrom ls x k).length dc] :: cl pb 121 (entCells lv m (.slice na qs.length nc) mv (.slice ra rs.length rc) s 3) :: PutsR (.slice (some ⟨lb, lo, none⟩) ls.length lc) ls :: PutsR (.slice na qs.length nc) qs :: PutsL lv s.L :: GrpOf m (s.L.map (·.1)) :: GrpN mv (s.N.map (·.1)) :: L) := hs6.bring [2, 1, 0]
                  generalize flatFrom ls x k = F at *
                  have g0 := SatL.cell (hs6 : SatL _ (cl qb _ _ :: _)) (i := 0) (v := .int .i64 1) rfl
                  have g1 := SatL.cell (hs6 : SatL _ (cl qb _ _ :: _)) (i := 1) (v := .int .i64 (s.start + xb)) rfl
                  have g2 := SatL.cell (hs6 : SatL _ (cl qb _ _ :: _)) (i := 2) (v := .int .i64 0) rfl
                  have g3 := SatL.cell (hs6 : SatL _ (cl qb _ _ :: _)) (i := 3) (v := .slice da F.length dc) rfl
                  have g5 := SatL.cell (SatL.pull hs6 3 : SatL _ (cl pb _ _ :: _)) (i := 5) (v := .slice ra rs.length rc) rfl
                  have y5 := SatL.cell (SatL.pull hs7 4 : SatL _ (cl pb _ _ :: _)) (i := 5) (v := .slice ra rs.length rc) rfl
                  clear hs5 hs6 hs7 hfl hkm
                  go_upto_region 22 with fail
                  go_region_law (first
                    | (refine step_oneReq (w := wr.drew) (nb := wr.heap.size) rfl rfl (.tmp 125) (.tmp 127) rfl rfl rfl rfl hs8 hrl ?_; intro v9 w9 h10; obtain ⟨oa9, oc9, hv9, _, _⟩ := SlK.valn (sat_ReqsR.1 h10); rw [List.length_append, List.length_cons, List.length_nil, Nat.zero_add] at hv9; subst hv9; have m0 := SatL.cell (SatL.pull h10 2 : SatL w9 (cl pb _ _ :: _)) (i := 5) (v := .slice ra rs.length rc) rfl; have m1 := SatL.free (SatL.pull h10 2 : SatL w9 (cl pb _ _ :: _)) 5; have h11 := (SatL.pull h10 2 : SatL w9 (cl pb _ _ :: _)).set (i := 5) (.slice oa9 (rs.length + 1) oc9))
                    | fail "no")
                  all_goals
                    have h12 := SatL.tail (h11.bring [2, 1, 0])
                    go_wp2
                    go_roundw
                    case rel => exact ⟨c + 1, x + 16, _, _, by have := Hx.out; omega, by have := Hx.out; omega, by go_num, by rw [rqs_snoc]; exact Hsn.out, h12⟩
                    case measure => simp [intOf]; omega
        · have hcc : c = (ls.length + 15) / 16 := by omega
          have e9 : rqs rs = reqsOf s 3 := by
            rw [hrs, hcc, Hlp.out, Hln.out]; rfl
          have h8 := sat_ReqsL.2 ⟨rs, e9, hs⟩
          have h9 := sat_PutsL.2 ⟨qs, Hqs.out, (SatL.pull h8 3 : SatL wr (PutsR _ _ :: _))⟩
          have hH := ent_fin Hf.out (SatL.tail (h9.bring [3, 2, 1, 4, 5, 0, 6]))
          have hxz : ¬ (x : Int) < ls.length := by omega
          clear hs h8 h9 e9 hrs hx
          go_wp2
          go_end0
          exact Ret.mk hH
end
end Go.Proofs.Ytjjnadlklfegcaa

namespace Go.Proofs.Ytjjnadlklfegcaa
set_option linter.unusedVariables false
set_option linter.unusedSimpArgs false
open Go.RowKit

theorem fit_sound {G : List PD} (hf : Fit G) (hn : (G.map (·.1)).Nodup) (h1 : G ≠ []) : recErr G = 0 := by
  have key : ∀ (rest seen : List PD), (∀ p ∈ rest, soundE p = 0) → ((seen ++ rest).map (·.1)).Nodup → recScan seen rest = 0 := by
    intro rest
    induction rest with
    | nil => intro seen _ _; rfl
    | cons p rest ih =>
      intro seen h3 h4
      unfold recScan
      rw [h3 p (by simp)]
      have hn : ¬ p.1 ∈ seen.map (·.1) := by
        intro hm
        rw [List.map_append, List.map_cons, List.nodup_append] at h4
        exact h4.2.2 _ hm _ (by simp) rfl
      simp only [ne_eq, not_true_eq_false, if_false]
      rw [if_neg hn]
      exact ih (seen ++ [p]) (fun q hq => h3 q (List.mem_cons_of_mem _ hq)) (by rw [List.append_assoc]; exact h4)
  unfold recErr
  rw [if_neg h1, if_neg (by have := hf.1; omega)]
  exact key G [] hf.2 (by simpa using hn)

section
variable {w : World} {L : List HP} {pb : Nat} {s : LogS}
theorem enter_ok {p : Nat} (hp : 1 ≤ p ∧ p ≤ 8) (hq : s.seq < 18446744073709551616) (hst : 0 ≤ s.start ∧ s.start ≤ 4611686018427387904) (hN : recErr s.N = 0) (h : SatL w (LogR pb s :: L)) :
    Calls Try.prog 58 #[.pointer (some ⟨pb, 0, none⟩), .int .i64 p] w (Ret fun r w' => SatL w' (LogR pb (s.enter p) :: L)) := by
  have hc : ((p = 2 ∨ p = 4 ∨ p = 6 ∨ p = 8) ∨ p = 1 ∨ p = 5) ∨ p = 7 ∨ p = 3 := by omega
  rcases hc with hc | hc | hc
  · exact enterA_ok hc hq hst hN h
  · exact enter7_ok hc hq hst hN h
  · exact enter3_ok hc hq hst hN h
theorem LogR.nodup (h : SatL w (LogR pb s :: L)) : (s.L.map (·.1)).Nodup ∧ Fit s.L := by
  obtain ⟨lv, m, nv, mv, rv, hf, h1⟩ := sat_LogR.1 h
  obtain ⟨es, hG, _⟩ := sat_GrpOf.1 (SatL.pull h1 2 : SatL w (GrpOf _ _ :: _))
  exact ⟨hG.1, hf.1⟩
/-- the log as Start hands it to the first phase -/
def LogS.begun (s : LogS) : LogS := { s with L := [], N := s.L, phase := 0, R := [], told := 0, don := 0, number := s.number + 1 }
def LogS.startS (s : LogS) : Int × LogS := if s.phase ≠ 0 then (8, s) else if s.L = [] then (2, s) else (0, s.begun.enter 1)
theorem start_busy (h : SatL w (LogR pb s :: L)) (h0 : s.phase ≠ 0) : Calls Try.prog 26 #[.pointer (some ⟨pb, 0, none⟩)] w (Ret fun r w' => r = .int .i64 8 ∧ SatL w' (LogR pb s :: L)) := by
  obtain ⟨lv, m, nv, mv, rv, hf, h1⟩ := sat_LogR.1 h
  have c4 : w.cell? ⟨pb, 4, none⟩ = some (.int .i64 s.phase) := h1.cell (i := 4) rfl
  have hz : ¬ (s.phase : Int) = 0 := by omega
  clear h1 h0 hf
  go_enter Try.func26, Try.ntmps26
  go_wp2
  go_ret
  exact Ret.mk ⟨rfl, h⟩
theorem start_empty (h : SatL w (LogR pb s :: L)) (h0 : s.phase = 0) (hL : s.L = []) : Calls Try.prog 26 #[.pointer (some ⟨pb, 0, none⟩)] w (Ret fun r w' => r = .int .i64 2 ∧ SatL w' (LogR pb s :: L)) := by
  obtain ⟨lv, m, nv, mv, rv, hf, h1⟩ := sat_LogR.1 h
  have hv := PutsL.valn (SatL.pull h1 1 : SatL w (PutsL _ _ :: _))
  rw [hL] at hv
  obtain ⟨a, c, rfl, q1, q2⟩ := hv
  have c0 : w.cell? ⟨pb, 0, none⟩ = some (.slice a 0 c) := h1.cell (i := 0) rfl
  have c4 : w.cell? ⟨pb, 4, none⟩ = some (.int .i64 s.phase) := h1.cell (i := 4) rfl
  rw [h0] at c4
  clear h1 hL h0 hf
  go_enter Try.func26, Try.ntmps26
  go_wp2
  go_ret
  exact Ret.mk ⟨rfl, h⟩
set_option maxRecDepth 100000 in
set_option maxHeartbeats 4000000 in
theorem start_go (h : SatL w (LogR pb s :: L)) (h0 : s.phase = 0) (hL : s.L ≠ []) (hq : s.seq < 18446744073709551616) (hst : 0 ≤ s.start ∧ s.start ≤ 4611686018427387904) (hnum : s.number ≤ 4611686018427387904) :
    Calls Try.prog 26 #[.pointer (some ⟨pb, 0, none⟩)] w (Ret fun r w' => r = .int .i64 0 ∧ SatL w' (LogR pb (s.begun.enter 1) :: L)) := by
  obtain ⟨hnd, hfl⟩ := LogR.nodup h
  have hrE := fit_sound hfl hnd hL
  obtain ⟨lv, m, nv, mv, rv, hf, h1⟩ := sat_LogR.1 h
  obtain ⟨a, c, rfl, q1, q2⟩ := PutsL.valn (SatL.pull h1 1 : SatL w (PutsL _ _ :: _))
  have hln : 0 < s.L.length := List.length_pos_iff.2 hL
  have hlz : ¬ (s.L.length : Int) = 0 := by omega
  have c0 : w.cell? ⟨pb, 0, none⟩ = some (.slice a s.L.length c) := h1.cell (i := 0) rfl
  have c1 : w.cell? ⟨pb, 1, none⟩ = some (.map (some m)) := h1.cell (i := 1) rfl
  have c2 : w.cell? ⟨pb, 2, none⟩ = some nv := h1.cell (i := 2) rfl
  have c3 : w.cell? ⟨pb, 3, none⟩ = some mv := h1.cell (i := 3) rfl
  have c4 : w.cell? ⟨pb, 4, none⟩ = some (.int .i64 s.phase) := h1.cell (i := 4) rfl
  rw [h0] at c4
  have c5 : w.cell? ⟨pb, 5, none⟩ = some rv := h1.cell (i := 5) rfl
  have c6 : w.cell? ⟨pb, 6, none⟩ = some (.int .i64 s.told) := h1.cell (i := 6) rfl
  have c7 : w.cell? ⟨pb, 7, none⟩ = some (.int .i64 s.don) := h1.cell (i := 7) rfl
  have f2 := h1.free 2
  have f3 := h1.free 3
  have f4 := h1.free 4
  have f5 := h1.free 5
  have f6 := h1.free 6
  have f7 := h1.free 7
  have h2 := (((((h1.set (i := 2) (.slice a s.L.length c)).set (i := 3) (.map (some m))).set (i := 4) (.int .i64 0)).set (i := 5) (.slice none 0 0)).set (i := 6) (.int .i64 0)).set (i := 7) (.int .i64 0)
  have e2 : (((((((logCells (.slice a s.L.length c) m nv mv rv s).setIfInBounds 2 (.slice a s.L.length c)).setIfInBounds 3 (.map (some m))).setIfInBounds 4 (.int .i64 0)).setIfInBounds 5 (.slice none 0 0)).setIfInBounds 6 (.int .i64 0)).setIfInBounds 7 (.int .i64 0)) =
    #[.slice a s.L.length c, .map (some m), .slice a s.L.length c, .map (some m), .int .i64 0, .slice none 0 0, .int .i64 0, .int .i64 0, .int .i64 s.start, .int .u64 s.seq, .int .i64 s.number, .int .i64 s.durable] := rfl
  rw [e2] at h2
  have hmm := @run_makeMap Try.prog
  have hnb : (s.number : Int) ≤ 4611686018427387904 := by omega
  clear h1 e2 h
  go_enter Try.func26, Try.ntmps26
  go_upto_region 6 with fail
  generalize (((((w.setCell ⟨pb, 2, none⟩ (.slice a s.L.length c)).setCell ⟨pb, 3, none⟩ (.map (some m))).setCell ⟨pb, 4, none⟩ (.int .i64 0)).setCell ⟨pb, 5, none⟩ (.slice none 0 0)).setCell ⟨pb, 6, none⟩ (.int .i64 0)).setCell ⟨pb, 7, none⟩ (.int .i64 0) = w1 at *
  clear c0 c1 c2 c3 c4 c5 c6 c7 f2 f3 f4 f5 f6 f7
  have d0 : w1.cell? ⟨pb, 0, none⟩ = some (.slice a s.L.length c) := h2.cell (i := 0) rfl
  have d1 : w1.cell? ⟨pb, 1, none⟩ = some (.map (some m)) := h2.cell (i := 1) rfl
  have d10 : w1.cell? ⟨pb, 10, none⟩ = some (.int .i64 s.number) := h2.cell (i := 10) rfl
  have g0 := h2.free 0
  have g1 := h2.free 1
  have g10 := h2.free 10
  have hne := h2.lt
  have h3 := (((h2.set (i := 0) (.slice none 0 0)).set (i := 1) (.map (some w1.heap.size))).set (i := 10) (.int .i64 (s.number + 1))).allocN (n := w1.heap.size) (.map #[] 0) (by simp)
  have h4 := MapI.made h3
  have h5 := sat_GrpOf.2 ⟨[], Grp.nil, h4⟩
  have h6 := sat_GrpN.2 (.inr ⟨m, rfl, (SatL.pull h5 3 : SatL _ (GrpOf m _ :: _))⟩)
  have h7 := ReqsL.nil (PutsL.nil h6)
  have h8 := (sat_LogR (s := s.begun)).2 ⟨.slice none 0 0, w1.heap.size, .slice a s.L.length c, .map (some m), .slice none 0 0, ⟨Fit.nil, hf.1⟩, h7.bring [4, 1, 3, 5, 2, 0]⟩
  have hent := enter_ok (s := s.begun) (p := 1) (by omega) hq hst hrE h8
  rw [show ((1 : Nat) : Int) = 1 from rfl] at hent
  clear h2 h3 h4 h5 h6 h7 h8
  go_wp2_with (go_at_call 58; (with_reducible refine hent.mono ?_); rintro e w2 ⟨r, rfl, h9⟩)
  go_ret
  exact Ret.mk ⟨rfl, SatL.to h9⟩
theorem start_ok (h : SatL w (LogR pb s :: L)) (hq : s.seq < 18446744073709551616) (hst : 0 ≤ s.start ∧ s.start ≤ 4611686018427387904) (hnum : s.number ≤ 4611686018427387904) :
    Calls Try.prog 26 #[.pointer (some ⟨pb, 0, none⟩)] w (Ret fun r w' => r = .int .i64 s.startS.1 ∧ SatL w' (LogR pb s.startS.2 :: L)) := by
  unfold LogS.startS
  by_cases h0 : s.phase ≠ 0
  · rw [if_pos h0]; exact start_busy h h0
  · have h00 : s.phase = 0 := by omega
    rw [if_neg h0]
    by_cases hL : s.L = []
    · rw [if_pos hL]; exact start_empty h h00 hL
    · rw [if_neg hL]; exact start_go h h00 hL hq hst hnum
end
end Go.Proofs.Ytjjnadlklfegcaa

namespace Go.Proofs.Ytjjnadlklfegcaa
set_option linter.unusedVariables false
set_option linter.unusedSimpArgs false
open Go.RowKit

def ReqSl (r : Rp) : Prop := ∃ a c, r.v = .slice a r.d.length c ∧ r.d.length ≤ c ∧ c ≤ 9223372036854775807
section
variable {w : World} {L : List HP}
theorem ReqsR.rdb {rv : Value} {rs : List Rp} {r : Rp} (h : SatL w (ReqsR rv rs :: L)) (hr : r ∈ rs) : RdB r.v r.d w := by
  obtain ⟨a, b, rfl⟩ := List.append_of_mem hr
  have h2 := big_mid.1 (sat_ReqsR.1 h).swap
  have h3 : SatL w (SlB 5 r.v r.d :: _) := h2
  exact SlB.rd h3
theorem ReqsR.sl {rv : Value} {rs : List Rp} {r : Rp} (h : SatL w (ReqsR rv rs :: L)) (hr : r ∈ rs) : ReqSl r := (ReqsR.rdb h hr).valn
theorem ReqsR.cells {b off n c j : Nat} {rs : List Rp} {r : Rp} (h : SatL w (ReqsR (.slice (some ⟨b, off, none⟩) n c) rs :: L)) (hr : rs[j]? = some r) :
    w.cell? ⟨b, off + j * 4, none⟩ = some (.int .i64 r.k) ∧ w.cell? ⟨b, off + j * 4 + 1, none⟩ = some (.int .i64 r.b) ∧ w.cell? ⟨b, off + j * 4 + 2, none⟩ = some (.int .i64 r.n) ∧ w.cell? ⟨b, off + j * 4 + 3, none⟩ = some r.v := by
  have h1 := sat_ReqsR.1 h
  obtain ⟨_, _, e, _⟩ := SlK.valn h1
  injection e with _ e2 _
  subst e2
  obtain ⟨c1, c2, c3, c4⟩ := rcells_get hr
  refine ⟨SlK.cell h1 c1, ?_, ?_, ?_⟩
  · rw [Nat.add_assoc]; exact SlK.cell h1 c2
  · rw [Nat.add_assoc]; exact SlK.cell h1 c3
  · rw [Nat.add_assoc]; exact SlK.cell h1 c4
theorem ReqsR.addr {a : Option Addr} {n c : Nat} {rs : List Rp} (h : SatL w (ReqsR (.slice a n c) rs :: L)) (hn : 0 < rs.length) : ∃ b off, a = some ⟨b, off, none⟩ := by
  rcases SlK.form (sat_ReqsR.1 h) with ⟨_, h2, _⟩ | ⟨b, off, cap, h1, _⟩
  · omega
  · injection h1 with h1 _ _; exact ⟨b, off, h1⟩
/-- one request more, in a plain walk -/
theorem wpList_oneReq {ops : Array Oper} {rest : List Oper} {o : Oper} {a : Act} {Q : Exit → Act → World → Prop} {nb : Nat} {v u : Value} {rs : List Rp} {k b n : Int} {d : List UInt8} (hnb : nb = w.heap.size) (hgd : o.guard = none) (s x : Operand)
    (ho : o.op = .call { callee := .builtin .append, args := #[s, x], argTypes := #[66, 66] }) (hs : a.eval s = v) (hy : a.eval x = .slice (some ⟨nb, 0, none⟩) 1 1)
    (hu : u.oneCell' = true) (h : SatL w (ReqsR v rs :: SlB 5 u d :: L)) (hl : rs.length ≤ 1000000)
    (K : ∀ v' w', SatL w' (ReqsR v' (rs ++ [⟨k, b, n, u, d⟩]) :: L) → wpList Try.prog ops Q rest (a.put o.dst v') w') :
    wpList Try.prog ops Q (o :: rest) a (w.alloc (.cells #[.int .i64 k, .int .i64 b, .int .i64 n, u] 80)) := by
  refine wpList_pushK_sl hnb hgd s x ho elem_req (by omega) hs (sat_ReqsR.1 h) hy rfl (by intro y hy; simp at hy; rcases hy with rfl | rfl | rfl | rfl <;> first | rfl | exact hu) (by omega) ?_
  intro v' w' h2
  exact K v' w' (ReqsR.snoc h2)
def LogS.wanted (s : LogS) : LogS := { s with told := s.R.length }
set_option maxRecDepth 100000 in
set_option maxHeartbeats 4000000 in
theorem want_ok {pb : Nat} {s : LogS} (h : SatL w (LogR pb s :: L)) (ht : s.told ≤ s.R.length) (hR : s.R.length ≤ 1000) (hd : ∀ r ∈ s.R, r.d.length ≤ 1000000) :
    Calls Try.prog 30 #[.pointer (some ⟨pb, 0, none⟩)] w (Ret fun r w' => SatL w' (ReqsL r (s.R.drop s.told) :: LogR pb s.wanted :: L)) := by
  obtain ⟨lv, m, nv, mv, rv, hf, h1⟩ := sat_LogR.1 h
  obtain ⟨rs, hrs, h2⟩ := sat_ReqsL.1 (SatL.pull h1 5 : SatL w (ReqsL _ _ :: _))
  have hrl : rs.length = s.R.length := by have := congrArg List.length hrs; rwa [List.length_map] at this
  have hdd : ∀ r ∈ rs, r.d.length ≤ 1000000 := by
    intro r hr
    exact hd ⟨r.k, r.b, r.n, r.d⟩ (by rw [← hrs]; exact List.mem_map_of_mem hr)
  have htr : s.told ≤ rs.length := by omega
  have hr1 : rs.length ≤ 1000 := by omega
  obtain ⟨ra, rc, rfl, q1, q2⟩ := SlK.valn (sat_ReqsR.1 h2)
  have h3 := sat_drew.2 h2
  have c5 := SatL.cell (SatL.pull h3 1 : SatL _ (cl pb _ _ :: _)) (i := 5) (v := .slice ra rs.length rc) rfl
  have c6 := SatL.cell (SatL.pull h3 1 : SatL _ (cl pb _ _ :: _)) (i := 6) (v := .int .i64 s.told) rfl
  have hfin : ∀ (w' : World) (ov : Value) (os : List Rp), rqs os = (rqs rs).drop s.told → SatL w' (ReqsR ov os :: cl pb 121 (logCells lv m nv mv (.slice ra rs.length rc) s.wanted) :: ReqsR (.slice ra rs.length rc) rs :: PutsL lv s.L :: GrpOf m (s.L.map (·.1)) :: PutsL nv s.N :: GrpN mv (s.N.map (·.1)) :: L) →
      SatL w' (ReqsL ov (s.R.drop s.told) :: LogR pb s.wanted :: L) := by
    intro w' ov os e h9
    have h10 := sat_ReqsL.2 ⟨os, (by rw [e, hrs] : rqs os = s.R.drop s.told), h9⟩
    have h11 := sat_ReqsL.2 ⟨rs, hrs, (SatL.pull h10 2 : SatL w' (ReqsR _ _ :: _))⟩
    exact ((sat_LogR (s := s.wanted)).2 ⟨lv, m, nv, mv, _, hf, h11.bring [2, 3, 4, 5, 6, 0]⟩).swap
  have HF := hid hfin
  have hz1 : (0 : Int) ≤ s.told := by omega
  have hz2 : (s.told : Int) ≤ rs.length := by omega
  have hz3 : (rs.length : Int) ≤ rc := by omega
  have hz4 : (rc : Int) ≤ 9223372036854775807 := by omega
  have hwn : s.R.length = rs.length := hrl.symm
  have Hwn := hid hwn
  have hs0 : SatL w.drew (ReqsR (.slice none 0 0) [] :: cl pb 121 (logCells lv m nv mv (.slice ra rs.length rc) s) :: ReqsR (.slice ra rs.length rc) rs :: PutsL lv s.L :: GrpOf m (s.L.map (·.1)) :: PutsL nv s.N :: GrpN mv (s.N.map (·.1)) :: L) :=
    sat_ReqsR.2 (SlK_nil ((big_nil (f := fun r : Rp => SlB 5 r.v r.d)).2 (h3.bring [1, 0])))
  generalize hT : s.told = t at *
  clear h h1 h2 h3 hrs hfin hrl hwn hd hR ht
  go_enter Try.func30, Try.ntmps30
  go_wp2
  have HLC : Hid (logCells lv m nv mv (.slice ra rs.length rc) s.wanted = (logCells lv m nv mv (.slice ra rs.length rc) s).setIfInBounds 6 (.int .i64 rs.length)) := by
    have e : (logCells lv m nv mv (.slice ra rs.length rc) s).setIfInBounds 6 (.int .i64 s.R.length) = logCells lv m nv mv (.slice ra rs.length rc) s.wanted := rfl
    rw [Hwn.out] at e
    exact e.symm
  by_cases hlt : t < rs.length
  · obtain ⟨b, off, rfl⟩ := ReqsR.addr (SatL.pull hs0 2 : SatL _ (ReqsR _ _ :: _)) (by omega)
    have hz5 : t < rc := by omega
    have hz6 : ¬ rc = t := by omega
    go_region
    go_wp2
    go_loopw [3, 18] (fun ov iv wr => ∃ (j : Nat) (os : List Rp), j ≤ rs.length - t ∧ iv = .int .i64 j ∧ rqs os = ((rqs rs).drop t).take j ∧ SatL wr (ReqsR ov os :: cl pb 121 (logCells lv m nv mv (.slice (some ⟨b, off, none⟩) rs.length rc) s) :: ReqsR (.slice (some ⟨b, off, none⟩) rs.length rc) rs :: PutsL lv s.L :: GrpOf m (s.L.map (·.1)) :: PutsL nv s.N :: GrpN mv (s.N.map (·.1)) :: L)) (fun _ iv _ => rs.length - t - (intOf iv).toNat)
    case atStart => exact ⟨0, [], by omega, rfl, rfl, hs0⟩
    case round =>
      clear hs0 c5 c6
      obtain ⟨j, os, hj, rfl, hos, hs⟩ := hrel
      have Hos := hid hos
      have hol : os.length ≤ 1000000 := by
        have := congrArg List.length hos
        rw [List.length_map, List.length_take] at this; omega
      obtain ⟨oa, oc, rfl, o1, o2⟩ := SlK.valn (sat_ReqsR.1 hs)
      by_cases hjn : j < rs.length - t
      · have hp : rs[t + j]? = some rs[t + j] := List.getElem?_eq_getElem (by omega)
        have hmem := List.getElem_mem (l := rs) (n := t + j) (by omega)
        obtain ⟨k0, k1, k2, k3⟩ := ReqsR.cells (SatL.pull hs 2 : SatL wr (ReqsR _ _ :: _)) hp
        obtain ⟨va, vc, hv, i1, i2⟩ := ReqsR.sl (SatL.pull hs 2 : SatL wr (ReqsR _ _ :: _)) hmem
        have e1 : off + (t + j) * 4 = off + t * 4 + j * 4 := by omega
        rw [e1] at k0 k1 k2 k3
        have hsn : rqs os ++ [⟨rs[t + j].k, rs[t + j].b, rs[t + j].n, rs[t + j].d⟩] = ((rqs rs).drop t).take (j + 1) := by
          rw [List.take_add_one, List.getElem?_drop, List.getElem?_map, hp, hos]; rfl
        have Hsn := hid hsn
        have hs1 := hs.alloc (.cells #[.int .i64 rs[t + j].k, .int .i64 rs[t + j].b, .int .i64 rs[t + j].n, rs[t + j].v] 80)
        have hcl := clone_rd hs1 (fun w' h' => ReqsR.rdb (SatL.pull h' 3 : SatL w' (ReqsR _ _ :: _)) hmem) (by have := hdd _ hmem; omega)
        rw [hv] at k3 hs1 hcl
        generalize rs[t + j].k = rk at *
        generalize rs[t + j].b = rb at *
        generalize rs[t + j].n = rn at *
        generalize rs[t + j].d = rd at *
        have y3 := SatL.cell (hs1 : SatL _ (cl _ _ _ :: _)) (i := 3) (v := .slice va rd.length vc) rfl
        have hjz : (j : Int) < ((rs.length - t : Nat) : Int) := by omega
        have t1 : True := trivial
        clear hp hmem hv hsn hos hs hs1 e1
        go_wp2_with (first
          | (have _t := t1; go_at_call 47; (with_reducible refine hcl.mono ?_); clear t1; rintro e w2 ⟨v2, rfl, h5⟩; obtain ⟨da, dc, rfl, _, _⟩ := SlB.valn h5; have x0 := SatL.cell (SatL.pull h5 1 : SatL w2 (cl _ _ _ :: _)) (i := 0) (v := .int .i64 rk) rfl; have x1 := SatL.cell (SatL.pull h5 1 : SatL w2 (cl _ _ _ :: _)) (i := 1) (v := .int .i64 rb) rfl; have x2 := SatL.cell (SatL.pull h5 1 : SatL w2 (cl _ _ _ :: _)) (i := 2) (v := .int .i64 rn) rfl; have x3 := SatL.cell (SatL.pull h5 1 : SatL w2 (cl _ _ _ :: _)) (i := 3) (v := .slice va rd.length vc) rfl; have f3 := SatL.free (SatL.pull h5 1 : SatL w2 (cl _ _ _ :: _)) 3; have h6 := (SatL.pull h5 1 : SatL w2 (cl _ _ _ :: _)).set (i := 3) (.slice da rd.length dc); have h7 : SatL _ (ReqsR (.slice oa os.length oc) os :: SlB 5 (.slice da rd.length dc) rd :: _) := h6.bring [2, 1])
          | (at_builtin; refine wpList_oneReq (w := w2.setCell ⟨wr.heap.size, 3, none⟩ (.slice da rd.length dc)) (nb := w2.heap.size) (by simp) rfl (.tmp 26) (.tmp 28) rfl rfl rfl rfl h7 hol ?_; intro v9 w9 h9))
        go_roundw
        case rel => exact ⟨j + 1, _, by omega, by go_num, by rw [rqs_snoc]; exact Hsn.out, SatL.tail (h9.bring [1, 0])⟩
        case measure => simp [intOf]; omega
      · obtain rfl : j = rs.length - t := by omega
        have e9 : rqs os = (rqs rs).drop t := by rw [hos]; exact List.take_of_length_le (by simp)
        have d5 := SatL.cell (SatL.pull hs 1 : SatL _ (cl pb _ _ :: _)) (i := 5) (v := .slice (some ⟨b, off, none⟩) rs.length rc) rfl
        have d6 := SatL.cell (SatL.pull hs 1 : SatL _ (cl pb _ _ :: _)) (i := 6) (v := .int .i64 s.told) rfl
        have f6 := SatL.free (SatL.pull hs 1 : SatL _ (cl pb _ _ :: _)) 6
        have h4 := (SatL.pull hs 1 : SatL _ (cl pb _ _ :: _)).set (i := 6) (.int .i64 rs.length)
        rw [← HLC.out] at h4
        have h5 := HF.out _ _ _ e9 h4.swap
        clear hs h4 e9 hos
        go_wp2
        go_ret
        exact Ret.mk h5
  · obtain rfl : t = rs.length := by omega
    have e9 : rqs ([] : List Rp) = (rqs rs).drop rs.length := by rw [List.drop_of_length_le (by simp)]; rfl
    have d5 := SatL.cell (SatL.pull hs0 1 : SatL _ (cl pb _ _ :: _)) (i := 5) (v := .slice ra rs.length rc) rfl
    have d6 := SatL.cell (SatL.pull hs0 1 : SatL _ (cl pb _ _ :: _)) (i := 6) (v := .int .i64 s.told) rfl
    have f6 := SatL.free (SatL.pull hs0 1 : SatL _ (cl pb _ _ :: _)) 6
    have h4 := (SatL.pull hs0 1 : SatL _ (cl pb _ _ :: _)).set (i := 6) (.int .i64 rs.length)
    rw [← HLC.out] at h4
    have h5 := hid (HF.out _ _ _ e9 h4.swap)
    have hra : (ra = none ∧ rs.length = 0 ∧ rc = 0) ∨ ∃ b off, ra = some ⟨b, off, none⟩ := by
      rcases SlK.form (sat_ReqsR.1 (SatL.pull hs0 2 : SatL _ (ReqsR _ _ :: _))) with ⟨h1, h2, _⟩ | ⟨b, off, cap, h1, _⟩
      · injection h1 with a1 a2 a3; exact .inl ⟨a1, h2, a3⟩
      · injection h1 with a1 _ _; exact .inr ⟨b, off, a1⟩
    clear hs0 h4 e9 hlt
    rcases hra with ⟨rfl, hn0, rfl⟩ | ⟨b, off, rfl⟩
    · have h5 := h5.out
      have e0 : ((rs.length : Nat) : Int) = 0 := by omega
      rw [e0] at c6 h5
      rw [hn0] at c5 d5
      clear hn0 HF HLC e0 hz1 hz2 hz3
      go_region
      generalize w.drew = wd at *
      go_wp2
      go_loopw [3, 18] (fun ov iv wr => ov = .slice none 0 0 ∧ iv = .int .i64 0 ∧ wr = wd) (fun _ _ _ => 0)
      case atStart => exact ⟨rfl, rfl, rfl⟩
      case round =>
        obtain ⟨rfl, rfl, rfl⟩ := hrel
        go_wp2
        go_ret
        exact Ret.mk h5
    · have h5 := h5.out
      by_cases hcap : rc = rs.length
      · clear HF HLC
        go_region
        generalize w.drew = wd at *
        go_wp2
        go_loopw [3, 18] (fun ov iv wr => ov = .slice none 0 0 ∧ iv = .int .i64 0 ∧ wr = wd) (fun _ _ _ => 0)
        case atStart => exact ⟨rfl, rfl, rfl⟩
        case round =>
          obtain ⟨rfl, rfl, rfl⟩ := hrel
          go_wp2
          go_ret
          exact Ret.mk h5
      · have hcap2 : rs.length < rc := by omega
        clear HF HLC
        go_region
        generalize w.drew = wd at *
        go_wp2
        go_loopw [3, 18] (fun ov iv wr => ov = .slice none 0 0 ∧ iv = .int .i64 0 ∧ wr = wd) (fun _ _ _ => 0)
        case atStart => exact ⟨rfl, rfl, rfl⟩
        case round =>
          obtain ⟨rfl, rfl, rfl⟩ := hrel
          go_wp2
          go_ret
          exact Ret.mk h5
end
end Go.Proofs.Ytjjnadlklfegcaa

namespace Go.Proofs.Ytjjnadlklfegcaa
set_option linter.unusedVariables false
set_option linter.unusedSimpArgs false
open Go.RowKit

def LogS.more (s : LogS) (k : Nat) : LogS := { s with don := s.don + k }
def LogS.through (s : LogS) : LogS := { s with N := [], phase := 0, R := [], told := 0, don := 0, seq := (s.seq + 1) % 18446744073709551616 }
def LogS.stays (s : LogS) : LogS := if s.phase = 6 then { s with durable := s.number - 1 } else s
def LogS.next (s : LogS) : LogS := if s.phase = 0 ∨ s.don < s.R.length then s else if s.phase = 8 then s.through else s.stays.enter (s.phase + 1)
def LogS.didS (s : LogS) (n : Int) : Int × LogS := if n < 0 ∨ (s.told : Int) - s.don < n then (1, s) else (0, (s.more n.toNat).next)
structure LogInv (s : LogS) : Prop where
  seq : s.seq < 18446744073709551616
  start : 0 ≤ s.start ∧ s.start ≤ 4611686018427387904
  num : 1 ≤ s.number ∧ s.number ≤ 4611686018427387904
  now : s.phase ≠ 0 → recErr s.N = 0
  ph : s.phase ≤ 8
  don : s.don ≤ s.told
  told : s.told ≤ s.R.length
  few : s.R.length ≤ 1000
  data : ∀ r ∈ s.R, r.d.length ≤ 1000000
section
variable {w : World} {L : List HP} {pb : Nat} {s : LogS}
set_option maxRecDepth 100000 in
set_option maxHeartbeats 4000000 in
theorem did_ok {n : Int} (ok : LogInv s) (hn : -9223372036854775808 ≤ n ∧ n ≤ 9223372036854775807) (h : SatL w (LogR pb s :: L)) :
    Calls Try.prog 29 #[.pointer (some ⟨pb, 0, none⟩), .int .i64 n] w (Ret fun r w' => r = .int .i64 (s.didS n).1 ∧ SatL w' (LogR pb (s.didS n).2 :: L)) := by
  obtain ⟨oseq, ostart, onum, onow, oph, odon, otold, ofew, odata⟩ := ok
  by_cases h0 : n < 0
  · have e : Hid (s.didS n = (1, s)) := hid (by unfold LogS.didS; rw [if_pos (.inl h0)])
    have hb0 : decide (n < 0) = true := by simpa using h0
    clear onow odata
    go_enter Try.func29, Try.ntmps29
    go_wp2
    go_quiet (fail)
    go_wp2
    go_ret
    rw [e.out]
    exact Ret.mk ⟨rfl, (sat_drewN _).2 h⟩
  · have hb0 : decide (n < 0) = false := by simpa using h0
    obtain ⟨lv, m, nv, mv, rv, hf, h1⟩ := sat_LogR.1 h
    have c6 : w.cell? ⟨pb, 6, none⟩ = some (.int .i64 s.told) := h1.cell (i := 6) rfl
    have c7 : w.cell? ⟨pb, 7, none⟩ = some (.int .i64 s.don) := h1.cell (i := 7) rfl
    have b1 : (s.told : Int) ≤ 1000 := by omega
    have b2 : (s.don : Int) ≤ 1000 := by omega
    have b3 : (0 : Int) ≤ s.told := by omega
    have b4 : (0 : Int) ≤ s.don := by omega
    have bw : IntKind.i64.wrap ((s.told : Int) - s.don) = (s.told : Int) - s.don := IntWalk.i64_in _ (by omega)
    by_cases h9 : (s.told : Int) - s.don < n
    · have e : Hid (s.didS n = (1, s)) := hid (by unfold LogS.didS; rw [if_pos (.inr h9)])
      have hb9 : decide ((s.told : Int) - s.don < n) = true := by simpa using h9
      clear h1 onow odata
      go_enter Try.func29, Try.ntmps29
      go_wp2
      go_quiet (fail)
      go_wp2
      go_ret
      rw [e.out]
      exact Ret.mk ⟨rfl, (sat_drewN _).2 h⟩
    · have hb9 : decide ((s.told : Int) - s.don < n) = false := by simpa using h9
      obtain ⟨k, rfl⟩ : ∃ k : Nat, n = k := ⟨n.toNat, by omega⟩
      have e : s.didS k = (0, (s.more k).next) := by unfold LogS.didS; rw [if_neg (by omega)]; rfl
      have hkt : s.don + k ≤ s.told := by omega
      have b5 : (s.don : Int) + k ≤ 1000 := by omega
      rw [e]
      clear e h
      go_enter Try.func29, Try.ntmps29
      go_wp2
      go_quiet (fail)
      have h2 := (sat_drewN nq).2 h1
      have d7 : (w.drewN nq).cell? ⟨pb, 7, none⟩ = some (.int .i64 s.don) := h2.cell (i := 7) rfl
      have f7 := h2.free 7
      have h3 := h2.set (i := 7) (.int .i64 (s.don + k))
      have e3 : (logCells lv m nv mv rv s).setIfInBounds 7 (.int .i64 (s.don + k)) = logCells lv m nv mv rv (s.more k) := rfl
      rw [e3] at h3
      generalize w.drewN nq = w0 at *
      clear c6 c7 e3 h1 h2
      go_upto_region 4 with fail
      generalize w0.setCell ⟨pb, 7, none⟩ (.int .i64 (s.don + k)) = w1 at *
      clear d7 f7
      have hrv := ReqsL.valn (SatL.pull h3 5 : SatL _ (ReqsL _ _ :: _))
      obtain ⟨ra, rc, rfl, r1, r2⟩ := hrv
      have c4 : w1.cell? ⟨pb, 4, none⟩ = some (.int .i64 s.phase) := h3.cell (i := 4) rfl
      have c5 : w1.cell? ⟨pb, 5, none⟩ = some (.slice ra (s.more k).R.length rc) := h3.cell (i := 5) rfl
      have c7 : w1.cell? ⟨pb, 7, none⟩ = some (.int .i64 (s.don + k)) := h3.cell (i := 7) rfl
      have hRl : (s.more k).R.length = s.R.length := rfl
      rw [hRl] at c5
      by_cases hp0 : s.phase = 0
      · have e : Hid ((s.more k).next = s.more k) := hid (by unfold LogS.next; rw [if_pos (.inl hp0)])
        rw [hp0] at c4
        rw [show ((0 : Nat) : Int) = 0 from rfl] at c4
        have hfin := (sat_LogR (s := s.more k)).2 ⟨lv, m, nv, mv, _, hf, h3⟩
        clear h3 hp0 onow odata hf
        go_quiet (fail)
        go_wp2
        go_ret
        rw [e.out]
        exact Ret.mk ⟨rfl, (sat_drewN _).2 hfin⟩
      · have hpz : ((s.phase : Int) == 0) = false := by simpa using hp0
        by_cases hlt : s.don + k < s.R.length
        · have e : Hid ((s.more k).next = s.more k) := hid (by unfold LogS.next; rw [if_pos (.inr hlt)])
          have hlz : decide ((s.don : Int) + k < s.R.length) = true := by simp; omega
          have hfin := (sat_LogR (s := s.more k)).2 ⟨lv, m, nv, mv, _, hf, h3⟩
          clear h3 onow odata hf hlt
          go_quiet (fail)
          go_wp2
          go_ret
          rw [e.out]
          exact Ret.mk ⟨rfl, (sat_drewN _).2 hfin⟩
        · have hlz : decide ((s.don : Int) + k < s.R.length) = false := by simp; omega
          have en : (s.more k).next = if s.phase = 8 then (s.more k).through else (s.more k).stays.enter (s.phase + 1) := by
            unfold LogS.next
            rw [if_neg (fun h5 => h5.elim hp0 hlt)]
            rfl
          have hrE := onow hp0
          clear hlt onow odata
          go_quiet (fail)
          have h4 := (sat_drewN nq).2 h3
          generalize w1.drewN nq = w2 at *
          clear c4 c5 c7 h3
          have c4 : w2.cell? ⟨pb, 4, none⟩ = some (.int .i64 s.phase) := h4.cell (i := 4) rfl
          by_cases h8 : s.phase = 8
          · have E : Hid ((s.more k).next = (s.more k).through) := hid (by rw [en, if_pos h8])
            rw [h8] at c4
            rw [show ((8 : Nat) : Int) = 8 from rfl] at c4
            obtain ⟨na, nc, rfl, n1, n2⟩ := PutsL.valn (SatL.pull h4 3 : SatL _ (PutsL nv _ :: _))
            have c2 : w2.cell? ⟨pb, 2, none⟩ = some (.slice na s.N.length nc) := h4.cell (i := 2) rfl
            have c3 : w2.cell? ⟨pb, 3, none⟩ = some mv := h4.cell (i := 3) rfl
            have c5 : w2.cell? ⟨pb, 5, none⟩ = some (.slice ra s.R.length rc) := h4.cell (i := 5) rfl
            have c6 : w2.cell? ⟨pb, 6, none⟩ = some (.int .i64 s.told) := h4.cell (i := 6) rfl
            have c7 : w2.cell? ⟨pb, 7, none⟩ = some (.int .i64 (s.don + k)) := h4.cell (i := 7) rfl
            have c9 : w2.cell? ⟨pb, 9, none⟩ = some (.int .u64 s.seq) := h4.cell (i := 9) rfl
            have f2 := h4.free 2
            have f3 := h4.free 3
            have f4 := h4.free 4
            have f5 := h4.free 5
            have f6 := h4.free 6
            have f7 := h4.free 7
            have f9 := h4.free 9
            have hw : IntKind.u64.wrap ((s.seq : Int) + 1) = (((s.seq + 1) % 18446744073709551616 : Nat) : Int) := by
              rcases Nat.lt_or_ge (s.seq + 1) 18446744073709551616 with h5 | h5
              · rw [Nat.mod_eq_of_lt h5]
                have := u64_in (s.seq + 1) h5
                push_cast at this ⊢
                exact this
              · have : s.seq = 18446744073709551615 := by omega
                rw [this]; rfl
            obtain ⟨sq, hsq⟩ : ∃ sq, sq = (s.seq + 1) % 18446744073709551616 := ⟨_, rfl⟩
            rw [← hsq] at hw
            have h5 := ((((((h4.set (i := 2) (.slice none 0 0)).set (i := 3) (.map none)).set (i := 4) (.int .i64 0)).set (i := 5) (.slice none 0 0)).set (i := 6) (.int .i64 0)).set (i := 7) (.int .i64 0)).set (i := 9) (.int .u64 sq)
            have h6 := (sat_GrpN (ks := [])).2 (.inl ⟨rfl, rfl, PutsL.nil h5⟩ : (.map none : Value) = .map none ∧ _ ∨ _)
            have hes : (s.more k).through = ⟨s.L, [], 0, [], 0, 0, s.start, sq, s.number, s.durable⟩ := by rw [hsq]; rfl
            have hfin := (sat_LogR (s := ⟨s.L, [], 0, [], 0, 0, s.start, sq, s.number, s.durable⟩)).2 ⟨lv, m, .slice none 0 0, .map none, .slice none 0 0, ⟨hf.1, Fit.nil⟩, (ReqsL.nil h6).bring [3, 4, 5, 2, 1, 0]⟩
            rw [← hes] at hfin
            clear h4 h5 h6 hes hsq en hf hrE h8 hpz hp0
            go_wp2
            go_ret
            rw [E.out]
            exact Ret.mk ⟨rfl, SatL.to hfin⟩
          · have h8z : ¬ (s.phase : Int) = 8 := by omega
            by_cases h6 : s.phase = 6
            · have E : Hid ((s.more k).next = (s.more k).stays.enter 7) := hid (by rw [en, if_neg h8, h6])
              rw [h6] at c4
              rw [show ((6 : Nat) : Int) = 6 from rfl] at c4
              have c10 : w2.cell? ⟨pb, 10, none⟩ = some (.int .i64 s.number) := h4.cell (i := 10) rfl
              have c11 : w2.cell? ⟨pb, 11, none⟩ = some (.int .i64 s.durable) := h4.cell (i := 11) rfl
              have f11 := h4.free 11
              have hn1 : (1 : Int) ≤ s.number := by omega
              have hn2 : (s.number : Int) ≤ 4611686018427387904 := by omega
              have h5 := h4.set (i := 11) (.int .i64 ((s.number : Int) - 1))
              have e5 : (logCells lv m nv mv (.slice ra s.R.length rc) (s.more k)).setIfInBounds 11 (.int .i64 ((s.number : Int) - 1)) = logCells lv m nv mv (.slice ra s.R.length rc) (s.more k).stays := by
                have e6 : (s.more k).stays = { s.more k with durable := s.number - 1 } := by unfold LogS.stays; rw [if_pos (show (s.more k).phase = 6 from h6)]; rfl
                rw [e6]
                have e7 : ((s.number : Int) - 1) = ((s.number - 1 : Nat) : Int) := by omega
                rw [e7]; rfl
              have est : (s.more k).stays.L = s.L ∧ (s.more k).stays.N = s.N ∧ (s.more k).stays.R = s.R ∧ (s.more k).stays.seq = s.seq ∧ (s.more k).stays.start = s.start := by
                unfold LogS.stays; split <;> exact ⟨rfl, rfl, rfl, rfl, rfl⟩
              obtain ⟨s1, s2, s3, s4, s5⟩ := est
              rw [e5] at h5
              have hfin : SatL _ (LogR pb (s.more k).stays :: L) := (sat_LogR (s := (s.more k).stays)).2 ⟨lv, m, nv, mv, .slice ra s.R.length rc, by rw [s1, s2]; exact hf, by rw [s1, s2, s3]; exact h5⟩
              have hent := enter_ok (s := (s.more k).stays) (p := 7) (by omega) (by rw [s4]; exact oseq) (by rw [s5]; exact ostart) (by rw [s2]; exact hrE) hfin
              rw [show ((7 : Nat) : Int) = 7 from rfl] at hent
              clear h4 h5 e5 hfin en hf hrE h6 h8 h8z hpz hp0 s1 s2 s3 s4 s5
              go_wp2_with (go_at_call 58; (with_reducible refine hent.mono ?_); rintro e w3 ⟨r, rfl, h9⟩)
              go_ret
              rw [E.out]
              exact Ret.mk ⟨rfl, h9⟩
            · have h6z : ¬ (s.phase : Int) = 6 := by omega
              have es : (s.more k).stays = s.more k := by unfold LogS.stays; rw [if_neg (show ¬ (s.more k).phase = 6 from h6)]
              have E : Hid ((s.more k).next = (s.more k).enter (s.phase + 1)) := hid (by rw [en, if_neg h8, es])
              have hfin := (sat_LogR (s := s.more k)).2 ⟨lv, m, nv, mv, _, hf, h4⟩
              have hent := enter_ok (s := s.more k) (p := s.phase + 1) (by omega) oseq ostart hrE hfin
              rw [show ((s.phase + 1 : Nat) : Int) = (s.phase : Int) + 1 by omega] at hent
              have hpb : (s.phase : Int) ≤ 8 := by omega
              have hpb2 : (0 : Int) ≤ s.phase := by omega
              clear h4 hfin en hf hrE h6 h8 es
              go_wp2_with (go_at_call 58; (with_reducible refine hent.mono ?_); rintro e w3 ⟨r, rfl, h9⟩)
              go_ret
              rw [E.out]
              exact Ret.mk ⟨rfl, h9⟩
end
end Go.Proofs.Ytjjnadlklfegcaa

namespace Go.Proofs.Ytjjnadlklfegcaa
set_option linter.unusedVariables false
set_option linter.unusedSimpArgs false
open Go.RowKit

def LogS.at (s : LogS) (p : Nat) : LogS :=
  if p ≤ 8 then { s with phase := p, R := reqsOf s p, told := 0, don := 0, durable := if 7 ≤ p then s.number - 1 else s.durable }
  else { s with N := [], phase := 0, R := [], told := 0, don := 0, seq := (s.seq + 1) % 18446744073709551616, durable := s.number - 1 }
theorem did_all {s : LogS} (h1 : s.told = s.R.length) (h2 : s.don = 0) (h3 : s.phase ≠ 0) : s.didS s.R.length = (0, if s.phase = 8 then (s.more s.R.length).through else (s.more s.R.length).stays.enter (s.phase + 1)) := by
  unfold LogS.didS
  rw [if_neg (by omega)]
  have e : (s.R.length : Int).toNat = s.R.length := by omega
  rw [e]
  have e2 : (s.more s.R.length).next = if s.phase = 8 then (s.more s.R.length).through else (s.more s.R.length).stays.enter (s.phase + 1) := by
    unfold LogS.next
    rw [if_neg]
    · rfl
    · rintro (h | h)
      · exact h3 h
      · have : s.don + s.R.length < s.R.length := h
        omega
  rw [e2]
theorem at_phase (s : LogS) {p : Nat} (hp : 1 ≤ p ∧ p ≤ 8) : (s.at p).phase = p := by unfold LogS.at; rw [if_pos hp.2]
theorem at_next (s : LogS) {p : Nat} (hp : 1 ≤ p ∧ p ≤ 8) : (s.at p).wanted.didS (s.at p).R.length = (0, s.at (p + 1)) := by
  have h1 : (s.at p).wanted.phase = p := at_phase s hp
  have h2 : (s.at p).wanted.don = 0 := by unfold LogS.wanted LogS.at; rw [if_pos hp.2]
  have h := did_all (s := (s.at p).wanted) rfl h2 (by rw [h1]; omega)
  rw [show (s.at p).wanted.R = (s.at p).R from rfl] at h
  rw [h, h1]
  have hc : p = 1 ∨ p = 2 ∨ p = 3 ∨ p = 4 ∨ p = 5 ∨ p = 6 ∨ p = 7 ∨ p = 8 := by omega
  rcases hc with rfl | rfl | rfl | rfl | rfl | rfl | rfl | rfl <;> rfl
theorem enter_at (s : LogS) (h : s.durable = s.durable) : s.enter 1 = s.at 1 := rfl
theorem wreqs_len (st : Int) (ls : List PD) (c : Nat) : (wreqs st ls c).length = c := by simp [wreqs]
theorem flat_le {l : List PD} (h : ∀ p ∈ l, p.2.length = 512) : ((l.map (·.2)).flatten).length ≤ 512 * l.length := by
  induction l with
  | nil => simp
  | cons p l ih =>
    have h1 := h p (by simp)
    have h2 := ih (fun q hq => h q (List.mem_cons_of_mem _ hq))
    simp only [List.map_cons, List.flatten_cons, List.length_append, List.length_cons]
    omega
theorem reqs_small {s : LogS} (hN : recErr s.N = 0) (hf : Fit s.N) (p : Nat) : (reqsOf s p).length ≤ 1000 ∧ ∀ r ∈ reqsOf s p, r.d.length ≤ 1000000 := by
  have hl := hf.1
  unfold reqsOf
  split
  · refine ⟨by simp only [List.length_singleton]; omega, fun r hr => ?_⟩
    rw [List.mem_singleton.1 hr]
    simp only [List.length_replicate]; omega
  split
  · refine ⟨by rw [wreqs_len]; omega, fun r hr => ?_⟩
    obtain ⟨c, hc, rfl⟩ := List.mem_map.1 hr
    unfold wreq
    have h512 : ∀ q ∈ (recAll s.seq s.N).drop 1, q.2.length = 512 := by
      intro q hq
      have hq2 : q ∈ inRow 1 s.N ++ [recEnd s.seq s.N] := hq
      rcases List.mem_append.1 hq2 with h | h
      · obtain ⟨i, x, hx, rfl⟩ := inRow_mem h
        exact hf.len x (List.mem_of_getElem? hx)
      · rw [List.mem_singleton.1 h]; exact endOf_len _ _
    have h1 := flat_le (l := (((recAll s.seq s.N).drop 1).drop (16 * c)).take 16) (fun q hq => h512 q (List.mem_of_mem_drop (List.mem_of_mem_take hq)))
    have h2 : ((((recAll s.seq s.N).drop 1).drop (16 * c)).take 16).length ≤ 16 := by rw [List.length_take]; omega
    simp only
    omega
  split
  · refine ⟨by simp, fun r hr => ?_⟩
    rw [List.mem_singleton.1 hr]
    simp only [headB_len hl]; omega
  split
  · refine ⟨by rw [List.length_map]; omega, fun r hr => ?_⟩
    obtain ⟨q, hq, rfl⟩ := List.mem_map.1 hr
    have := hf.len q hq
    simp only; omega
  · exact ⟨by simp, by simp⟩
/-- what a log must be ahead of a commit -/
structure Runs (s : LogS) : Prop where
  seq : s.seq < 18446744073709551616
  start : 0 ≤ s.start ∧ s.start ≤ 4611686018427387904
  num : 1 ≤ s.number ∧ s.number ≤ 4611686018427387904
  now : recErr s.N = 0
  fit : Fit s.N
theorem Runs.inv {s : LogS} (h : Runs s) {p : Nat} (hp : 1 ≤ p ∧ p ≤ 8) : LogInv (s.at p).wanted := by
  obtain ⟨r1, r2⟩ := reqs_small h.now h.fit p
  have e : s.at p = { s with phase := p, R := reqsOf s p, told := 0, don := 0, durable := if 7 ≤ p then s.number - 1 else s.durable } := by unfold LogS.at; rw [if_pos hp.2]
  rw [e]
  exact ⟨h.seq, h.start, h.num, fun _ => h.now, hp.2, Nat.zero_le _, Nat.le_refl _, r1, r2⟩
theorem Runs.small {s : LogS} (h : Runs s) {p : Nat} (hp : 1 ≤ p ∧ p ≤ 8) : (s.at p).told ≤ (s.at p).R.length ∧ (s.at p).R.length ≤ 1000 ∧ (∀ r ∈ (s.at p).R, r.d.length ≤ 1000000) ∧ (s.at p).R.drop (s.at p).told = (s.at p).R := by
  obtain ⟨r1, r2⟩ := reqs_small h.now h.fit p
  have e : s.at p = { s with phase := p, R := reqsOf s p, told := 0, don := 0, durable := if 7 ≤ p then s.number - 1 else s.durable } := by unfold LogS.at; rw [if_pos hp.2]
  rw [e]
  exact ⟨Nat.zero_le _, r1, r2, rfl⟩
section
variable {w : World} {L : List HP} {pb : Nat} {s : LogS}
theorem want_at {p : Nat} (hr : Runs s) (hp : 1 ≤ p ∧ p ≤ 8) (h : SatL w (LogR pb (s.at p) :: L)) :
    Calls Try.prog 30 #[.pointer (some ⟨pb, 0, none⟩)] w (Ret fun r w' => SatL w' (ReqsL r (s.at p).R :: LogR pb (s.at p).wanted :: L)) := by
  obtain ⟨h1, h2, h3, h4⟩ := hr.small hp
  have := want_ok h h1 h2 h3
  rw [h4] at this
  exact this
theorem did_at {p : Nat} (hr : Runs s) (hp : 1 ≤ p ∧ p ≤ 8) (h : SatL w (LogR pb (s.at p).wanted :: L)) :
    Calls Try.prog 29 #[.pointer (some ⟨pb, 0, none⟩), .int .i64 (s.at p).R.length] w (Ret fun r w' => r = .int .i64 0 ∧ SatL w' (LogR pb (s.at (p + 1)) :: L)) := by
  have hs := (hr.small hp).2.1
  have := did_ok (n := (s.at p).R.length) (hr.inv hp) (by omega) h
  rw [at_next s hp] at this
  exact this
end
end Go.Proofs.Ytjjnadlklfegcaa

namespace Go.Proofs.Ytjjnadlklfegcaa
set_option linter.unusedVariables false
set_option linter.unusedSimpArgs false
open Go.RowKit

/-- the phase p, all told, i requests answered -/
def LogS.part (s : LogS) (p i : Nat) : LogS := { (s.at p).wanted with don := i }
theorem part_zero (s : LogS) {p : Nat} (hp : 1 ≤ p ∧ p ≤ 8) : s.part p 0 = (s.at p).wanted := by
  unfold LogS.part LogS.at LogS.wanted
  rw [if_pos hp.2]
theorem part_phase (s : LogS) {p : Nat} (i : Nat) (hp : 1 ≤ p ∧ p ≤ 8) : (s.part p i).phase = p := at_phase s hp
theorem part_R (s : LogS) (p i : Nat) : (s.part p i).R = (s.at p).R := rfl
theorem part_bad (s : LogS) {p i : Nat} (hp : 1 ≤ p ∧ p ≤ 8) : (s.part p i).didS (2 + (s.at p).R.length) = (1, s.part p i) := by
  unfold LogS.didS
  rw [if_pos]
  right
  have h1 : (s.part p i).told = (s.at p).R.length := rfl
  have h2 : (s.part p i).don = i := rfl
  omega
theorem part_step (s : LogS) {p i : Nat} (hp : 1 ≤ p ∧ p ≤ 8) (hi : i + 1 < (s.at p).R.length) : (s.part p i).didS 1 = (0, s.part p (i + 1)) := by
  have h1 : (s.part p i).told = (s.at p).R.length := rfl
  have h2 : (s.part p i).don = i := rfl
  unfold LogS.didS
  rw [if_neg (by omega)]
  have e : ((s.part p i).more (1 : Int).toNat).next = s.part p (i + 1) := by
    unfold LogS.next
    rw [if_pos]
    · rfl
    · right; show i + 1 < (s.at p).R.length; exact hi
  rw [e]
theorem part_last (s : LogS) {p i : Nat} (hp : 1 ≤ p ∧ p ≤ 8) (hi : i + 1 = (s.at p).R.length) : (s.part p i).didS 1 = (0, s.at (p + 1)) := by
  have h1 : (s.part p i).told = (s.at p).R.length := rfl
  have h2 : (s.part p i).don = i := rfl
  have hph : (s.part p i).phase = p := part_phase s i hp
  unfold LogS.didS
  rw [if_neg (by omega)]
  have e : ((s.part p i).more (1 : Int).toNat).next = s.at (p + 1) := by
    unfold LogS.next
    rw [if_neg]
    · show (if (s.part p i).phase = 8 then _ else _) = _
      rw [hph]
      have hc : p = 1 ∨ p = 2 ∨ p = 3 ∨ p = 4 ∨ p = 5 ∨ p = 6 ∨ p = 7 ∨ p = 8 := by omega
      rcases hc with rfl | rfl | rfl | rfl | rfl | rfl | rfl | rfl <;> rfl
    · rintro (h | h)
      · have : p = 0 := hph.symm.trans h
        omega
      · have : i + 1 < (s.at p).R.length := h
        omega
  rw [e]
theorem Runs.partInv {s : LogS} (h : Runs s) {p i : Nat} (hp : 1 ≤ p ∧ p ≤ 8) (hi : i ≤ (s.at p).R.length) : LogInv (s.part p i) := by
  have h1 := h.inv hp
  exact ⟨h1.seq, h1.start, h1.num, h1.now, h1.ph, hi, h1.told, h1.few, h1.data⟩
section
variable {w : World} {L : List HP} {pb : Nat} {s : LogS}
theorem want_again {p : Nat} (hr : Runs s) (hp : 1 ≤ p ∧ p ≤ 8) (h : SatL w (LogR pb (s.part p 0) :: L)) :
    Calls Try.prog 30 #[.pointer (some ⟨pb, 0, none⟩)] w (Ret fun r w' => SatL w' (ReqsL r [] :: LogR pb (s.part p 0) :: L)) := by
  have h1 := (hr.partInv hp (Nat.zero_le _) : LogInv (s.part p 0))
  have h2 := want_ok h (Nat.le_refl _ : (s.part p 0).told ≤ (s.part p 0).R.length) h1.few h1.data
  have e : (s.part p 0).R.drop (s.part p 0).told = [] := List.drop_of_length_le (Nat.le_refl _)
  rw [e] at h2
  exact h2
theorem did_bad {p i : Nat} (hr : Runs s) (hp : 1 ≤ p ∧ p ≤ 8) (hi : i ≤ (s.at p).R.length) (h : SatL w (LogR pb (s.part p i) :: L)) :
    Calls Try.prog 29 #[.pointer (some ⟨pb, 0, none⟩), .int .i64 (2 + (s.at p).R.length)] w (Ret fun r w' => r = .int .i64 1 ∧ SatL w' (LogR pb (s.part p i) :: L)) := by
  have hs := (hr.small hp).2.1
  have := did_ok (n := 2 + (s.at p).R.length) (hr.partInv hp hi) (by omega) h
  rw [part_bad s hp] at this
  exact this
theorem did_one {p i : Nat} (hr : Runs s) (hp : 1 ≤ p ∧ p ≤ 8) (hi : i < (s.at p).R.length) (h : SatL w (LogR pb (s.part p i) :: L)) :
    Calls Try.prog 29 #[.pointer (some ⟨pb, 0, none⟩), .int .i64 1] w (Ret fun r w' => r = .int .i64 0 ∧ SatL w' (LogR pb (if i + 1 < (s.at p).R.length then s.part p (i + 1) else s.at (p + 1)) :: L)) := by
  have := did_ok (n := 1) (hr.partInv hp (Nat.le_of_lt hi)) (by omega) h
  by_cases h1 : i + 1 < (s.at p).R.length
  · rw [part_step s hp h1] at this
    rw [if_pos h1]; exact this
  · rw [part_last s hp (by omega)] at this
    rw [if_neg h1]; exact this
end
end Go.Proofs.Ytjjnadlklfegcaa

namespace Go.Proofs.Ytjjnadlklfegcaa
set_option linter.unusedVariables false
set_option linter.unusedSimpArgs false
open Go.RowKit
section
variable {w : World} {L : List HP}
theorem rq_rdb {rv : Value} {rs : List Rp} {r : Rp} (h : SatL w (ReqsR rv rs :: L)) (hr : r ∈ rs) : RdB r.v r.d w := by
  obtain ⟨a, b, rfl⟩ := List.append_of_mem hr
  have h2 := big_mid.1 (sat_ReqsR.1 h).swap
  have h3 : SatL w (SlB 5 r.v r.d :: _) := h2
  exact SlB.rd h3
theorem rq_val {rv : Value} {rs : List Rp} {r : Rp} (h : SatL w (ReqsR rv rs :: L)) (hr : r ∈ rs) : ∃ a c, r.v = .slice a r.d.length c ∧ r.d.length ≤ c ∧ c ≤ 9223372036854775807 := by
  obtain ⟨a, b, rfl⟩ := List.append_of_mem hr
  have h2 := big_mid.1 (sat_ReqsR.1 h).swap
  have h3 : SatL w (SlB 5 r.v r.d :: _) := h2
  exact SlB.valn h3
theorem rq_addr {qa : Option Addr} {n c : Nat} {rs : List Rp} (h : SatL w (ReqsR (.slice qa n c) rs :: L)) (hn : 0 < rs.length) : ∃ b o, qa = some ⟨b, o, none⟩ := by
  obtain ⟨b, o, h1, _⟩ := (SlK.rdk (sat_ReqsR.1 h)).at hn
  exact ⟨b, o, h1⟩
theorem rq_cells {qb qo n qc k : Nat} {rs : List Rp} {r : Rp} (hr : rs[k]? = some r) (h : SatL w (ReqsR (.slice (some ⟨qb, qo, none⟩) n qc) rs :: L)) :
    w.cell? ⟨qb, qo + k * 4, none⟩ = some (.int .i64 r.k) ∧ w.cell? ⟨qb, qo + k * 4 + 1, none⟩ = some (.int .i64 r.b) ∧ w.cell? ⟨qb, qo + k * 4 + 3, none⟩ = some r.v ∧ RdB r.v r.d w := by
  have h0 : 0 < rs.length := by have := (List.getElem?_eq_some_iff.1 hr).1; omega
  obtain ⟨b', off', hbo, hc⟩ := (SlK.rdk (sat_ReqsR.1 h)).at h0
  cases hbo
  obtain ⟨c1, c2, c3, c4⟩ := rcells_get hr
  exact ⟨hc _ _ c1, by rw [Nat.add_assoc]; exact hc _ _ c2, by rw [Nat.add_assoc]; exact hc _ _ c4, rq_rdb h (List.mem_of_getElem? hr)⟩
end
theorem rqs_one {rq : List Rp} {x : Rq} (h : rqs rq = [x]) : ∃ r : Rp, rq[0]? = some r ∧ r.k = x.k ∧ r.b = x.b ∧ r.d = x.d := by
  match rq, h with
  | [r], h => cases h; exact ⟨r, rfl, rfl, rfl, rfl⟩
theorem rqs_nth {rq : List Rp} {R : List Rq} (h : rqs rq = R) {k : Nat} {x : Rq} (hx : R[k]? = some x) : ∃ r : Rp, rq[k]? = some r ∧ r.k = x.k ∧ r.b = x.b ∧ r.d = x.d := by
  subst h
  rw [List.getElem?_map] at hx
  obtain ⟨r, hr, rfl⟩ := Option.map_eq_some_iff.1 hx
  exact ⟨r, hr, rfl, rfl, rfl⟩
theorem rqs_len {rq : List Rp} {R : List Rq} (h : rqs rq = R) : rq.length = R.length := by subst h; rw [List.length_map]
theorem reqs_1 (s : LogS) : reqsOf s 1 = [⟨1, s.start, 0, List.replicate 512 0⟩] := if_pos rfl
theorem reqs_3 (s : LogS) : reqsOf s 3 = wreqs s.start ((recAll s.seq s.N).drop 1) ((s.N.length + 1 + 15) / 16) := by unfold reqsOf; rw [if_neg (by decide), if_pos rfl]
theorem reqs_5 (s : LogS) : reqsOf s 5 = [⟨1, s.start, 0, headB s.seq s.N⟩] := by unfold reqsOf; rw [if_neg (by decide), if_neg (by decide), if_pos rfl]
theorem reqs_7 (s : LogS) : reqsOf s 7 = s.N.map fun q => ⟨1, q.1, 0, q.2⟩ := by unfold reqsOf; rw [if_neg (by decide), if_neg (by decide), if_neg (by decide), if_pos rfl]
theorem reqs_else (s : LogS) {p : Nat} (h1 : p ≠ 1) (h3 : p ≠ 3) (h5 : p ≠ 5) (h7 : p ≠ 7) : reqsOf s p = [⟨4, 0, 0, []⟩] := by unfold reqsOf; rw [if_neg h1, if_neg h3, if_neg h5, if_neg h7]
end Go.Proofs.Ytjjnadlklfegcaa

namespace Go.Proofs.Ytjjnadlklfegcaa
set_option linter.unusedVariables false
set_option linter.unusedSimpArgs false
open Go.RowKit
theorem flat512_len : ∀ {l : List PD}, (∀ p ∈ l, p.2.length = 512) → ((l.map (·.2)).flatten).length = 512 * l.length
  | [], _ => rfl
  | p :: l, h => by
    have h1 := h p (by simp)
    have h2 := flat512_len (l := l) fun q hq => h q (List.mem_cons_of_mem _ hq)
    simp only [List.map_cons, List.flatten_cons, List.length_append, List.length_cons, h1, h2]
    omega
theorem flat512_at : ∀ {l : List PD} {k : Nat} {p : PD}, (∀ p ∈ l, p.2.length = 512) → l[k]? = some p → (((l.map (·.2)).flatten).take (512 * k + 512)).drop (512 * k) = p.2
  | [], k, p, _, h => by simp at h
  | q :: l, 0, p, hh, h => by
    have h0 : q = p := by simpa using h
    subst h0
    have h1 := hh q (by simp)
    simp only [List.map_cons, List.flatten_cons, Nat.mul_zero, Nat.zero_add, List.drop_zero]
    rw [List.take_append_of_le_length (by omega), List.take_of_length_le (by omega)]
  | q :: l, k + 1, p, hh, h => by
    have h1 := hh q (by simp)
    have h2 := flat512_at (l := l) (k := k) (p := p) (fun q hq => hh q (List.mem_cons_of_mem _ hq)) (by simpa using h)
    simp only [List.map_cons, List.flatten_cons]
    rw [List.take_append, List.drop_append, List.drop_of_length_le (by rw [List.length_take]; omega), List.nil_append, List.length_take, h1]
    rw [show min (512 * (k + 1) + 512) 512 = 512 by omega, show 512 * (k + 1) + 512 - 512 = 512 * k + 512 by omega, show 512 * (k + 1) - 512 = 512 * k by omega]
    exact h2
/-- the rest of a record: rows 1 up to the end -/
def recTail (seq : Nat) (l : List PD) : List PD := (recAll seq l).drop 1
theorem recTail_eq (seq : Nat) (l : List PD) : recTail seq l = inRow 1 l ++ [recEnd seq l] := rfl
theorem recTail_len (seq : Nat) (l : List PD) : (recTail seq l).length = l.length + 1 := by rw [recTail_eq, List.length_append, inRow_len]; rfl
theorem recTail_at {seq : Nat} {l : List PD} {j : Nat} {p : PD} (h : (recTail seq l)[j]? = some p) : p.1 = ((1 + j : Nat) : Int) := by
  rw [recTail_eq] at h
  by_cases hj : j < l.length
  · rw [List.getElem?_append_left (by rw [inRow_len]; exact hj), inRow_get (List.getElem?_eq_getElem hj)] at h
    cases h; rfl
  · rw [List.getElem?_append_right (by rw [inRow_len]; omega), inRow_len] at h
    have h1 := (List.getElem?_eq_some_iff.1 h).1
    have hj2 : j = l.length := by simp at h1; omega
    subst hj2
    rw [Nat.sub_self] at h
    cases h; rfl
theorem recTail_512 {seq : Nat} {l : List PD} (h : recErr l = 0) : ∀ p ∈ recTail seq l, p.2.length = 512 := fun p hp => (recAll_ok (seq := seq) h p (List.mem_of_mem_drop hp)).1
theorem wreqs_get {st : Int} {ls : List PD} {n c : Nat} (h : c < n) : (wreqs st ls n)[c]? = some (wreq st ls (16 * c)) := by
  unfold wreqs
  rw [List.getElem?_map, List.getElem?_range h, Option.map_some]
theorem wreq_len {st : Int} {ls : List PD} (h5 : ∀ p ∈ ls, p.2.length = 512) (i : Nat) : (wreq st ls i).d.length = 512 * min 16 (ls.length - i) := by
  show ((((ls.drop i).take 16).map (·.2)).flatten).length = _
  rw [flat512_len (fun q hq => h5 q (List.mem_of_mem_drop (List.mem_of_mem_take hq))), List.length_take, List.length_drop]
theorem wreq_at {st : Int} {ls : List PD} {i k : Nat} {p : PD} (h5 : ∀ p ∈ ls, p.2.length = 512) (hk : k < 16) (h : ls[i + k]? = some p) : ((wreq st ls i).d.take (512 * k + 512)).drop (512 * k) = p.2 := by
  show (((((ls.drop i).take 16).map (·.2)).flatten).take _).drop _ = _
  refine flat512_at (fun q hq => h5 q (List.mem_of_mem_drop (List.mem_of_mem_take hq))) ?_
  rw [List.getElem?_take, if_pos hk, List.getElem?_drop]; exact h
theorem wreq_b {st : Int} {seq : Nat} {l : List PD} {i : Nat} (h : i < l.length + 1) : (wreq st (recTail seq l) i).b = st + ((1 + i : Nat) : Int) := by
  have h1 : i < (recTail seq l).length := by rw [recTail_len]; exact h
  have h2 := List.getElem?_eq_getElem h1
  show st + (((recTail seq l)[i]?.map (·.1)).getD 0) = _
  rw [h2, Option.map_some, Option.getD_some, recTail_at h2]
end Go.Proofs.Ytjjnadlklfegcaa

namespace Go.Proofs.Ytjjnadlklfegcaa
set_option linter.unusedVariables false
set_option linter.unusedSimpArgs false
open Go.RowKit

def refCells (lv nv rv : Value) (s : LogS) : Array Value :=
  #[.int .i64 s.start, .int .u64 s.seq, .int .i64 s.number, lv, nv, .int .i64 s.phase, rv, .int .i64 ((s.told : Int) - s.don), .int .i64 s.durable]
def RefR (xb : Nat) (s : LogS) : HP := ex fun lv => ex fun nv => ex fun rv =>
  sep [pur (Fit s.L ∧ Fit s.N), cl xb 77 (refCells lv nv rv s), PutsL lv s.L, PutsL nv s.N, ReqsL rv (s.R.drop s.told)]
/-- where a number stands first, or -1 -/
def plcI (l : List Int) (k : Int) : Int := match plc l k with | some i => (i : Int) | none => -1
theorem plc_at : ∀ {l : List Int} {k : Int} {j : Nat}, l[j]? = some k → (∀ t, t < j → l[t]? ≠ some k) → plc l k = some j
  | [], _, _, h, _ => by simp at h
  | x :: l, k, 0, h, _ => by simp at h; unfold plc; rw [if_pos h]
  | x :: l, k, j + 1, h, hn => by
    have h0 : x ≠ k := fun e => hn 0 (by omega) (by simp [e])
    have h1 := plc_at (l := l) (k := k) (j := j) (by simpa using h) (fun t ht => by have := hn (t + 1) (by omega); simpa using this)
    unfold plc
    rw [if_neg h0, h1]; rfl
theorem plcI_at {l : List Int} {k : Int} {j : Nat} (h : l[j]? = some k) (hn : ∀ t, t < j → l[t]? ≠ some k) : plcI l k = j := by unfold plcI; rw [plc_at h hn]
theorem plcI_no {l : List Int} {k : Int} (hn : ∀ t, t < l.length → l[t]? ≠ some k) : plcI l k = -1 := by
  unfold plcI
  rw [plc_none.2]
  intro hm
  obtain ⟨t, ht⟩ := List.getElem?_of_mem hm
  exact hn t (List.getElem?_eq_some_iff.1 ht).1 ht

section
variable {w : World} {L : List HP} {xb : Nat} {s : LogS}
theorem sat_RefR : SatL w (RefR xb s :: L) ↔ ∃ lv nv rv, (Fit s.L ∧ Fit s.N) ∧ SatL w (cl xb 77 (refCells lv nv rv s) :: PutsL lv s.L :: PutsL nv s.N :: ReqsL rv (s.R.drop s.told) :: L) := by
  simp only [RefR, sat_ex, sat_sep, List.cons_append, List.nil_append, sat_pur]
set_option maxHeartbeats 1000000 in
theorem refnew_ok {start : Int} {seq : Nat} (hst : 0 ≤ start) (h : SatL w L) :
    Calls Try.prog 32 #[.int .i64 start, .int .u64 seq] w (Ret fun r w' => ∃ xb, r = .tuple #[.pointer (some ⟨xb, 0, none⟩), .int .i64 0] ∧ SatL w' (RefR xb (logNew start seq) :: L)) := by
  have h1 := h.alloc (.cells #[.int .i64 start, .int .u64 seq, .int .i64 1, .slice none 0 0, .slice none 0 0, .int .i64 0, .slice none 0 0, .int .i64 0, .int .i64 0] 77)
  go_enter Try.func32, Try.ntmps32
  go_wp2
  go_ret2
  refine Ret.mk ⟨_, rfl, sat_RefR.2 ⟨.slice none 0 0, .slice none 0 0, .slice none 0 0, ⟨Fit.nil, Fit.nil⟩, ?_⟩⟩
  exact (ReqsL.nil (PutsL.nil (PutsL.nil h1))).bring [3, 2, 1, 0]
theorem refnew_no {start : Int} {seq : Nat} (hst : start < 0) (h : SatL w L) :
    Calls Try.prog 32 #[.int .i64 start, .int .u64 seq] w (Ret fun r w' => r = .tuple #[.pointer none, .int .i64 1] ∧ SatL w' L) := by
  go_enter Try.func32, Try.ntmps32
  go_wp2
  go_ret2
  exact Ret.mk ⟨rfl, h⟩
set_option maxHeartbeats 1000000 in
theorem place_ok {v : Value} {ps : List Pt} {k : Int} (h : SatL w L) (g : Gives L (RdPts v ps)) (hl : ps.length ≤ 1000000) :
    Calls Try.prog 65 #[v, .int .i64 k] w (Ret fun r w' => r = .int .i64 (plcI (ps.map (·.b)) k) ∧ SatL w' L) := by
  obtain ⟨a, c, rfl, p1, p2⟩ := (g w h).1.valn
  go_enter Try.func65, Try.ntmps65
  go_wp2
  go_loopw [5] (fun iv wr => ∃ j : Nat, j ≤ ps.length ∧ iv = .int .i64 j ∧ (∀ t, t < j → (ps.map (·.b))[t]? ≠ some k) ∧ SatL wr L) (fun iv _ => ps.length - (intOf iv).toNat)
  case atStart => exact ⟨0, by omega, rfl, fun t ht => by omega, h⟩
  case round =>
    clear h
    obtain ⟨j, hj, rfl, hn, hs⟩ := hrel
    by_cases hlt : j < ps.length
    · obtain ⟨b, off, rfl, _⟩ := (g _ hs).1.at (by omega)
      have hp : ps[j]? = some ps[j] := List.getElem?_eq_getElem hlt
      have hc := (RdPts.cell2 (g _ hs) hp).1
      have hb : (ps.map (·.b))[j]? = some ps[j].b := by rw [List.getElem?_map, hp]; rfl
      have hz : (j : Int) < ps.length := by omega
      generalize ps[j].b = x at *
      by_cases hx : x = k
      · subst hx
        have e := hid (plcI_at hb hn)
        clear hn hb hp
        go_wp2
        go_ret
        exact Ret.mk ⟨by rw [e.out]; rfl, hs⟩
      · have hn2 : ∀ t, t < j + 1 → (ps.map (·.b))[t]? ≠ some k := by
          intro t ht
          by_cases e : t = j
          · subst e; rw [hb]; intro e2; exact hx (Option.some.inj e2)
          · exact hn t (by omega)
        have hx2 : ¬ x = k := hx
        have Hn2 := hid hn2
        clear hn hb hp hn2
        go_wp2
        go_roundw
        case rel => exact ⟨j + 1, by omega, by go_num, Hn2.out, hs⟩
        case measure => simp [intOf]; omega
    · obtain rfl : j = ps.length := by omega
      have e := hid (plcI_no (k := k) (l := ps.map (·.b)) (fun t ht => hn t (by simpa using ht)))
      clear hn
      go_wp2
      go_ret
      exact Ret.mk ⟨by rw [e.out]; rfl, hs⟩
set_option maxHeartbeats 1000000 in
theorem refwant_ok (hw : s.told ≤ s.R.length) (hd : s.don ≤ s.told) (hr : s.R.length ≤ 1000) (h : SatL w (RefR xb s :: L)) :
    Calls Try.prog 63 #[.pointer (some ⟨xb, 0, none⟩)] w (Ret fun r w' => SatL w' (ReqsL r (s.R.drop s.told) :: RefR xb s.wanted :: L)) := by
  obtain ⟨lv, nv, rv, hf, h1⟩ := sat_RefR.1 h
  obtain ⟨a, c, rfl, q1, q2⟩ := ReqsL.valn (SatL.pull h1 3 : SatL w (ReqsL _ _ :: _))
  have c6 : w.cell? ⟨xb, 6, none⟩ = some (.slice a (s.R.drop s.told).length c) := h1.cell (i := 6) rfl
  have c7 : w.cell? ⟨xb, 7, none⟩ = some (.int .i64 ((s.told : Int) - s.don)) := h1.cell (i := 7) rfl
  have hdl : (s.R.drop s.told).length = s.R.length - s.told := List.length_drop
  generalize hdr : s.R.drop s.told = D at *
  have f7 := h1.free 7
  have hx := SatL.set (SatL.set h1 (i := 7) (.int .i64 ((s.told : Int) - s.don + D.length))) (i := 6) (.slice none 0 0)
  have f6 := (SatL.set h1 (i := 7) (.int .i64 ((s.told : Int) - s.don + D.length))).free 6
  have hb1 : (0 : Int) ≤ (s.told : Int) - s.don := by omega
  have hb2 : (s.told : Int) - s.don ≤ 1000 := by omega
  have hb3 : (D.length : Int) ≤ 1000 := by omega
  have HX := hid hx
  have Hdl := hid hdl
  have Hdr := hid hdr
  clear hx hdl hdr h1 h
  go_enter Try.func63, Try.ntmps63
  go_wp2
  go_ret
  have h2 := HX.out
  refine Ret.mk ?_
  have e : s.wanted.R.drop s.wanted.told = [] := List.drop_of_length_le (Nat.le_refl _)
  have h3 : SatL _ (RefR xb s.wanted :: ReqsL (.slice a D.length c) D :: L) := sat_RefR.2 ⟨lv, nv, .slice none 0 0, hf, by
    rw [e]
    have h4 := ReqsL.nil (SatL.bring h2 [0, 1, 2, 3])
    have e5 : ((refCells lv nv (.slice a D.length c) s).setIfInBounds 7 (.int .i64 ((s.told : Int) - s.don + D.length))).setIfInBounds 6 (.slice none 0 0) = refCells lv nv (.slice none 0 0) s.wanted := by
      unfold refCells LogS.wanted
      simp only
      rw [show ((s.told : Int) - s.don + D.length) = (s.R.length : Int) - s.don by have := Hdl.out; omega]
      rfl
    rw [← e5]
    exact SatL.bring h4 [1, 2, 3, 0, 4]⟩
  exact h3.swap
end
end Go.Proofs.Ytjjnadlklfegcaa

namespace Go.Proofs.Ytjjnadlklfegcaa
set_option linter.unusedVariables false
set_option linter.unusedSimpArgs false
open Go.RowKit

theorem rgfind_at {ps : List Pt} {l : List PD} {b : Int} {i : Nat} (hps : pds ps = l) (h : plc (l.map (·.1)) b = some i) : ∃ p, ps[i]? = some p ∧ gfind l b = some p.d ∧ plcI (ps.map (·.b)) b = i := by
  have hl := plc_lt h
  rw [List.length_map] at hl
  have k1 : l.map (·.1) = ps.map (·.b) := by rw [← hps]; simp
  have hn : ps.length = l.length := by rw [← hps, List.length_map]
  subst hps
  have hi : ps[i]? = some (ps[i]'(by omega)) := List.getElem?_eq_getElem (by omega)
  refine ⟨_, hi, ?_, ?_⟩
  · unfold gfind
    rw [h]
    simp only
    rw [pds_get hi]; rfl
  · unfold plcI
    rw [← k1, h]
theorem rgfind_no {ps : List Pt} {l : List PD} {b : Int} (hps : pds ps = l) (h : plc (l.map (·.1)) b = none) : gfind l b = none ∧ plcI (ps.map (·.b)) b = -1 := by
  have k1 : l.map (·.1) = ps.map (·.b) := by rw [← hps]; simp
  refine ⟨by unfold gfind; rw [h], ?_⟩
  unfold plcI
  rw [← k1, h]

section
variable {w : World} {L : List HP} {xb : Nat} {s : LogS}
set_option maxRecDepth 100000 in
set_option maxHeartbeats 4000000 in
theorem reffind_ok {b : Int} (h : SatL w (RefR xb s :: L)) : Calls Try.prog 34 #[.pointer (some ⟨xb, 0, none⟩), .int .i64 b] w
    (Ret fun r w' => ∃ v, r = .tuple #[v, .bool (s.find b).isSome] ∧ SatL w' (SlB 5 v ((s.find b).getD []) :: RefR xb s :: L)) := by
  obtain ⟨lv, nv, rv, hf, h1⟩ := sat_RefR.1 h
  obtain ⟨ps, hps, h2⟩ := sat_PutsL.1 (SatL.pull h1 1 : SatL w (PutsL _ _ :: _))
  obtain ⟨qs, hqs, h3⟩ := sat_PutsL.1 (SatL.pull h2 2 : SatL w (PutsL _ _ :: _))
  have hback : ∀ w' L', SatL w' (PutsR nv qs :: PutsR lv ps :: cl xb 77 (refCells lv nv rv s) :: ReqsL rv (s.R.drop s.told) :: L') → SatL w' (RefR xb s :: L') := by
    intro w' L' h'
    have a1 := sat_PutsL.2 ⟨qs, hqs, h'⟩
    have a2 := sat_PutsL.2 ⟨ps, hps, (SatL.pull a1 1 : SatL w' (PutsR _ _ :: _))⟩
    exact sat_RefR.2 ⟨lv, nv, rv, hf, a2.bring [2, 0, 1, 3]⟩
  have l1 : ps.length ≤ 64 := by have := hf.1.1; rw [← hps, List.length_map] at this; exact this
  have l2 : qs.length ≤ 64 := by have := hf.2.1; rw [← hqs, List.length_map] at this; exact this
  have d1 : ∀ p ∈ ps, p.d.length ≤ 1000000000 := by
    intro p hp
    have := hf.1.len (p.b, p.d) (by rw [← hps]; exact List.mem_map_of_mem hp)
    simp only at this; omega
  have d2 : ∀ p ∈ qs, p.d.length ≤ 1000000000 := by
    intro p hp
    have := hf.2.len (p.b, p.d) (by rw [← hqs]; exact List.mem_map_of_mem hp)
    simp only at this; omega
  have hpl := fun (w' : World) (h' : SatL w' _) => place_ok (k := b) h' (L := PutsR nv qs :: PutsR lv ps :: cl xb 77 (refCells lv nv rv s) :: ReqsL rv (s.R.drop s.told) :: L) (fun w'' h'' => PutsR.rdpts (SatL.pull h'' 1 : SatL w'' (PutsR lv ps :: _))) (by omega)
  have hpq := fun (w' : World) (h' : SatL w' _) => place_ok (k := b) h' (L := PutsR nv qs :: PutsR lv ps :: cl xb 77 (refCells lv nv rv s) :: ReqsL rv (s.R.drop s.told) :: L) (fun w'' h'' => PutsR.rdpts (h'' : SatL w'' (PutsR nv qs :: _))) (by omega)
  have hc3 := fun (w' : World) (h' : SatL w' (PutsR nv qs :: PutsR lv ps :: cl xb 77 (refCells lv nv rv s) :: ReqsL rv (s.R.drop s.told) :: L)) => (⟨SatL.cell (SatL.pull h' 2 : SatL w' (cl xb _ _ :: _)) (i := 3) rfl, SatL.cell (SatL.pull h' 2 : SatL w' (cl xb _ _ :: _)) (i := 4) rfl⟩ : w'.cell? ⟨xb, 3, none⟩ = some lv ∧ w'.cell? ⟨xb, 4, none⟩ = some nv)
  obtain ⟨la, lc, rfl, m1, m2⟩ := (PutsR.rdpts (SatL.pull h3 1 : SatL w (PutsR lv ps :: _))).1.valn
  obtain ⟨na, nc, rfl, m3, m4⟩ := (PutsR.rdpts (h3 : SatL w (PutsR nv qs :: _))).1.valn
  have Hb := hid hback
  have HC := hid hc3
  obtain ⟨e3, e4⟩ := hc3 _ h3
  cases hp : plc (s.L.map (·.1)) b with
  | some i =>
    obtain ⟨p, hpi, hg, hpz⟩ := rgfind_at hps hp
    have E : Hid (s.find b = some p.d) := hid (by unfold LogS.find; rw [hg]; rfl)
    rw [hpz] at hpl
    have hil : i < ps.length := (List.getElem?_eq_some_iff.1 hpi).1
    have hiz : (i : Int) < ps.length := by omega
    have hi0 : (0 : Int) ≤ i := by omega
    have hdp := d1 p (List.mem_of_getElem? hpi)
    have hL := fun (w' : World) (h' : SatL w' (PutsR (.slice na qs.length nc) qs :: PutsR (.slice la ps.length lc) ps :: cl xb 77 (refCells (.slice la ps.length lc) (.slice na qs.length nc) rv s) :: ReqsL rv (s.R.drop s.told) :: L)) => PutsR.rdpd (SatL.pull h' 1 : SatL w' (PutsR (.slice la ps.length lc) ps :: _))
    obtain ⟨lb, lo, rfl, _⟩ := (hL _ h3).1.1.at (by omega)
    obtain ⟨va, vc, hv, _, _⟩ := (hL _ h3).1.2 p (List.mem_of_getElem? hpi)
    have hcell := fun (w' : World) h' => (RdPts.cell2 (hL w' h').1 hpi).2
    have hrd := fun (w' : World) h' => (hL w' h').2 p (List.mem_of_getElem? hpi)
    rw [hv] at hcell hrd
    generalize p.d = pd at *
    have HCe := hid hcell
    have HRd := hid hrd
    have hp1 := hpl _ h3
    clear hL hcell hrd hpl hpq hc3 hback hp hpi hg hpz hv d1 d2 h h1 h2 hps hqs hf
    go_enter Try.func34, Try.ntmps34
    go_wp2_with (first
      | (go_at_call 65; (with_reducible refine hp1.mono ?_); rintro e w2 ⟨r, rfl, rfl, g1⟩; have g2 : SatL (w2.alloc (.cells #[] 5)) _ := SatL.tail (g1.alloc (.cells #[] 5)); obtain ⟨u3, u4⟩ := HC.out _ g2; have u5 := HCe.out _ g2)
      | (refine wpList_appnew rfl rfl (.tmp 15) (.tmp 23) rfl rfl rfl g1 (HRd.out _ g1) hdp ?_; intro v' w' g3))
    go_ret2
    exact Ret.mk ⟨_, by rw [E.out]; rfl, by rw [E.out]; exact SatL.swap (Hb.out _ (SlB 5 v' pd :: L) (SatL.bring g3 [1, 2, 3, 4, 0]))⟩
  | none =>
    obtain ⟨hg0, hpz0⟩ := rgfind_no hps hp
    rw [hpz0] at hpl
    have hp1 := hpl _ h3
    cases hp2 : plc (s.N.map (·.1)) b with
    | some i =>
      obtain ⟨p, hpi, hg, hpz⟩ := rgfind_at hqs hp2
      have E : Hid (s.find b = some p.d) := hid (by unfold LogS.find; rw [hg0, hg]; rfl)
      rw [hpz] at hpq
      have hil : i < qs.length := (List.getElem?_eq_some_iff.1 hpi).1
      have hiz : (i : Int) < qs.length := by omega
      have hi0 : (0 : Int) ≤ i := by omega
      have hdp := d2 p (List.mem_of_getElem? hpi)
      have hL := fun (w' : World) (h' : SatL w' (PutsR (.slice na qs.length nc) qs :: PutsR (.slice la ps.length lc) ps :: cl xb 77 (refCells (.slice la ps.length lc) (.slice na qs.length nc) rv s) :: ReqsL rv (s.R.drop s.told) :: L)) => PutsR.rdpd (h' : SatL w' (PutsR (.slice na qs.length nc) qs :: _))
      obtain ⟨lb, lo, rfl, _⟩ := (hL _ h3).1.1.at (by omega)
      obtain ⟨va, vc, hv, _, _⟩ := (hL _ h3).1.2 p (List.mem_of_getElem? hpi)
      have hcell := fun (w' : World) h' => (RdPts.cell2 (hL w' h').1 hpi).2
      have hrd := fun (w' : World) h' => (hL w' h').2 p (List.mem_of_getElem? hpi)
      rw [hv] at hcell hrd
      generalize p.d = pd at *
      have HCe := hid hcell
      have HRd := hid hrd
      have HPq := hid hpq
      have t1 : True := trivial
      clear hL hcell hrd hpl hpq hc3 hback hp hp2 hpi hg hpz hv d1 d2 h h1 h2 hps hqs hf hg0 hpz0
      go_enter Try.func34, Try.ntmps34
      go_wp2_with (first
        | (have _t := t1; go_at_call 65; (with_reducible refine hp1.mono ?_); rintro e w2 ⟨r, rfl, rfl, g1⟩; clear t1; obtain ⟨v3, v4⟩ := HC.out _ g1; have hp3 := HPq.out _ g1; have t2 : True := trivial)
        | (have _t := t2; go_at_call 65; (with_reducible refine hp3.mono ?_); rintro e w3 ⟨r, rfl, rfl, g2⟩; clear t2; have g4 : SatL (w3.alloc (.cells #[] 5)) _ := SatL.tail (g2.alloc (.cells #[] 5)); obtain ⟨u3, u4⟩ := HC.out _ g4; have u5 := HCe.out _ g4)
        | (refine wpList_appnew rfl rfl (.tmp 33) (.tmp 41) rfl rfl rfl g2 (HRd.out _ g2) hdp ?_; intro v' w' g3))
      go_ret2
      exact Ret.mk ⟨_, by rw [E.out]; rfl, by rw [E.out]; exact SatL.swap (Hb.out _ (SlB 5 v' pd :: L) (SatL.bring g3 [1, 2, 3, 4, 0]))⟩
    | none =>
      obtain ⟨hg, hpz⟩ := rgfind_no hqs hp2
      have E : Hid (s.find b = none) := hid (by unfold LogS.find; rw [hg0, hg]; rfl)
      rw [hpz] at hpq
      have HPq := hid hpq
      have t1 : True := trivial
      clear hpl hpq hc3 hback hp hp2 hg hpz d1 d2 h h1 h2 hps hqs hf hg0 hpz0
      go_enter Try.func34, Try.ntmps34
      go_wp2_with (first
        | (have _t := t1; go_at_call 65; (with_reducible refine hp1.mono ?_); rintro e w2 ⟨r, rfl, rfl, g1⟩; clear t1; obtain ⟨v3, v4⟩ := HC.out _ g1; have hp3 := HPq.out _ g1; have t2 : True := trivial)
        | (have _t := t2; go_at_call 65; (with_reducible refine hp3.mono ?_); rintro e w3 ⟨r, rfl, rfl, g2⟩; clear t2))
      go_ret2
      exact Ret.mk ⟨_, by rw [E.out]; rfl, by rw [E.out]; exact Sl_nil (Hb.out _ _ g2)⟩
end
end Go.Proofs.Ytjjnadlklfegcaa

namespace Go.Proofs.Ytjjnadlklfegcaa
set_option linter.unusedVariables false
set_option linter.unusedSimpArgs false
open Go.RowKit

section
variable {w : World} {L : List HP} {xb : Nat} {s : LogS}
/-- append([]byte{}, x...) in a drawn region -/
theorem step_appnew2 {ops : Array Oper} {o : Oper} {a : Act} {K : Act → World → Prop} {Q : Exit → Act → World → Prop} {X : Prop} {nb : Nat} {v : Value} {l : List UInt8} (hnb : nb = w.heap.size) (hgd : o.guard = none) (s x : Operand)
    (ho : o.op = .call { callee := .builtin .append, args := #[s, x], argTypes := #[27, 27] }) (hs : a.eval s = .slice (some ⟨nb, 0, none⟩) 0 0) (hy : a.eval x = v)
    (h : SatL w L) (g : RdB v l w) (hl : l.length ≤ 1000000000) (H : ∀ v' w', SatL w' (SlB 5 v' l :: L) → K (a.put o.dst v') w') :
    if Region.wanted o (yielded ops a.tmps) = true then Oper.wp Try.prog o a (w.alloc (.cells #[] 5)) K Q else X := by
  subst hnb
  have h4 : SatL (w.alloc (.cells #[] 5)) (SlK 5 1 (.slice (some ⟨w.heap.size, 0, none⟩) 0 0) 0 [] :: L) :=
    sat_SlK.2 (.inr ⟨w.heap.size, 0, 0, #[], ⟨rfl, Nat.le_refl _, by decide, rfl, by simp, rfl⟩, h.alloc _⟩)
  refine step_append_sl hgd s x ho elem_byte hs h4 hy (SrcOk.ofRdB (RdB.alloc g _)) (bvs_one l) (by omega) (by unfold maxLen; omega) ?_
  intro v' w' h8 _
  exact H v' w' (by simpa using Sl.ofK h8)
set_option maxRecDepth 100000 in
set_option maxHeartbeats 4000000 in
theorem twin_ok {b : Int} {a : Option Addr} {n c : Nat} {d : List UInt8} (hd : d.length ≤ 1000000000) (h : SatL w L) (g : Gives L (RdB (.slice a n c) d)) :
    Calls Try.prog 75 #[.agg #[.int .i64 b, .slice a n c]] w (Ret fun r w' => ∃ ta tc, r = .agg #[.int .i64 b, .slice ta d.length tc] ∧ d.length ≤ tc ∧ SatL w' (SlB 5 (.slice ta d.length tc) d :: L)) := by
  have k1 := h.alloc (.cells #[.int .i64 b, .slice a n c] 29)
  have k2 := k1.allocN (n := w.heap.size + 1) (.cells #[.int .i64 0, .slice none 0 0] 29) (by simp)
  have hld := fun (w' : World) (L' : List HP) (b : Nat) (x y : Value) (h : SatL w' (cl b 29 #[x, y] :: L')) => run_loadPut h
  have Hg := hid g
  clear g h k1
  go_enter Try.func75, Try.ntmps75
  go_upto_region 1 with fail
  generalize w.heap.size = pb at *
  generalize (w.alloc (.cells #[.int .i64 b, .slice a n c] 29)).alloc (.cells #[.int .i64 0, .slice none 0 0] 29) = wA at *
  have HC := hid (fun (w' : World) (x y : Value) (L' : List HP) (h : SatL w' (cl (pb + 1) 29 #[x, y] :: cl pb 29 #[.int .i64 b, .slice a n c] :: L')) => (⟨SatL.cell (SatL.pull h 1 : SatL w' (cl pb _ _ :: _)) (i := 0) rfl, SatL.cell (SatL.pull h 1 : SatL w' (cl pb _ _ :: _)) (i := 1) rfl⟩ : w'.cell? ⟨pb, 0, none⟩ = some (.int .i64 b) ∧ w'.cell? ⟨pb, 1, none⟩ = some (.slice a n c)))
  have hs1 := sat_drew.2 k2
  have S0 := HC.out _ _ _ _ hs1
  have S1 := HC.out _ _ _ _ (sat_drew.2 ((k2.alloc (.cells #[] 5)).bring [1, 2]))
  have hrd : RdB (.slice a n c) d wA.drew := Hg.out _ hs1.tail.tail
  clear k2
  go_region_held3 (fun w' => w'.cell? ⟨pb, 0, none⟩ = some (.int .i64 b) ∧ w'.cell? ⟨pb, 1, none⟩ = some (.slice a n c)) (first | with_reducible exact S0 | with_reducible exact S1 | with_reducible exact S2 | with_reducible exact S3 | with_reducible exact S4 | go_keep) (first
    | (refine step_appnew2 (w := wA.drew) (nb := wA.drew.heap.size) rfl rfl (.tmp 5) (.tmp 7) rfl rfl rfl hs1 hrd hd ?_; intro v2 w2 h7; obtain ⟨da, dc, rfl, j1, j2⟩ := SlB.valn h7; have h8 := (SatL.pull h7 1 : SatL w2 (cl (pb + 1) _ _ :: _)); have S2 := HC.out _ _ _ _ (h8.bring [0, 2]); have z0 := SatL.cell h8 (i := 0) rfl; have f0 := SatL.free h8 0; have z1 := SatL.cell h8 (i := 1) rfl; have f1 := SatL.free h8 1; have h9 := put_chain (.int .i64 b) (.slice da d.length dc) h8; have S3 := HC.out _ _ _ _ (h9.bring [0, 2]))
    | fail "no")
  all_goals
    go_wp2
    refine bodyPost_ret (results_c rfl _ _ _ rfl (hld _ _ _ _ _ h9)) rfl (Ret.mk ⟨_, _, rfl, j1, SatL.tail (SatL.tail (h9.bring [0, 2, 1]))⟩)
end
end Go.Proofs.Ytjjnadlklfegcaa

namespace Go.Proofs.Ytjjnadlklfegcaa
set_option linter.unusedVariables false
set_option linter.unusedSimpArgs false
open Go.RowKit

theorem pcells_set2 : ∀ {ps : List Pt} {i : Nat} {p : Pt}, i < ps.length → ((pcells ps).set (i * 2) (.int .i64 p.b)).set (i * 2 + 1) p.v = pcells (ps.set i p)
  | [], _, _, h => by simp at h
  | q :: ps, 0, p, _ => by simp [pcells]
  | q :: ps, i + 1, p, h => by
    have h1 := pcells_set2 (ps := ps) (i := i) (p := p) (by simpa using h)
    have e : pcells (q :: ps) = .int .i64 q.b :: q.v :: pcells ps := rfl
    have e2 : pcells ((q :: ps).set (i + 1) p) = .int .i64 q.b :: q.v :: pcells (ps.set i p) := rfl
    rw [e, e2, show (i + 1) * 2 = i * 2 + 1 + 1 by omega, List.set_cons_succ, List.set_cons_succ, List.set_cons_succ, List.set_cons_succ, h1]
theorem perm_set {Q rest M : List Pt} {i : Nat} {t q : Pt} (hq : Q[i]? = some q) (h : (Q ++ rest).Perm M) : (Q.set i t ++ q :: rest).Perm (M ++ [t]) := by
  have hi := (List.getElem?_eq_some_iff.1 hq).1
  have e := (List.getElem?_eq_some_iff.1 hq).2
  have e1 : Q = Q.take i ++ q :: Q.drop (i + 1) := by rw [← e, ← List.drop_eq_getElem_cons hi, List.take_append_drop]
  have e2 : Q.set i t = Q.take i ++ t :: Q.drop (i + 1) := by rw [List.set_eq_take_append_cons_drop, if_pos hi]
  have h1 : (Q.set i t ++ q :: rest).Perm (t :: (Q ++ rest)) := by
    rw [e2]
    have a1 : (Q.take i ++ t :: Q.drop (i + 1) ++ q :: rest).Perm (q :: (Q.take i ++ t :: Q.drop (i + 1) ++ rest)) := List.perm_middle
    have a2 : (Q.take i ++ t :: Q.drop (i + 1)).Perm (t :: (Q.take i ++ Q.drop (i + 1))) := List.perm_middle
    have a3 : Q.Perm (q :: (Q.take i ++ Q.drop (i + 1))) := by
      have := (List.perm_middle : (Q.take i ++ q :: Q.drop (i + 1)).Perm _)
      rwa [← e1] at this
    refine a1.trans ?_
    refine (List.Perm.cons q (a2.append_right rest)).trans ?_
    refine (List.Perm.swap t q _).trans ?_
    exact List.Perm.cons t ((a3.append_right rest).symm)
  exact h1.trans ((List.Perm.cons t h).trans (List.perm_append_comm (l₁ := [t])))
theorem pds_set (ps : List Pt) (i : Nat) (p : Pt) : pds (ps.set i p) = (pds ps).set i (p.b, p.d) := by simp [List.map_set]
section
variable {w : World} {L : List HP} {xb : Nat} {s : LogS}
/-- what a block holds of a row of blocks of bytes -/
theorem big_ptsl {ps : List Pt} {p : Pt} (h : SatL w (big (fun p : Pt => SlB 5 p.v p.d) ps :: L)) (hp : p ∈ ps) : PtSl p := by
  obtain ⟨a, b, rfl⟩ := List.append_of_mem hp
  have h2 := big_mid.1 h
  have h3 : SatL w (SlB 5 p.v p.d :: _) := h2
  exact SlB.valn h3
/-- all of Join's second loop: the new list's cells Q, the elder row's cells, the bytes of both -/
abbrev JL (xb : Nat) (s : LogS) (lv nv rv av : Value) (Q ps news : List Pt) (L : List HP) : List HP :=
  SlK 29 2 av Q.length (pcells Q) :: SlK 29 2 lv ps.length (pcells ps) :: big (fun p : Pt => SlB 5 p.v p.d) (ps ++ news) :: cl xb 77 (refCells lv nv rv s) :: PutsL nv s.N :: ReqsL rv (s.R.drop s.told) :: L
theorem JL_rd {lv nv rv av : Value} {Q rest ps news : List Pt} (hp : (Q ++ rest).Perm (ps ++ news)) : Gives (JL xb s lv nv rv av Q ps news L) (RdPts av Q) := by
  intro w' h
  refine ⟨SlK.rdk h, fun q hq => ?_⟩
  exact big_ptsl (SatL.pull h 2 : SatL w' (big _ (ps ++ news) :: _)) (hp.mem_iff.1 (List.mem_append_left _ hq))
theorem JL_L {lv nv rv av : Value} {Q ps news : List Pt} {F : World → Prop} (g : Gives L F) : Gives (JL xb s lv nv rv av Q ps news L) F := fun w' h => g w' h.tail.tail.tail.tail.tail.tail
set_option maxRecDepth 100000 in
set_option maxHeartbeats 8000000 in
theorem refjoin_ok {v : Value} {ls : List Pt} (h : SatL w (RefR xb s :: L)) (g : Gives L (RdPD v ls)) (hl : ls.length ≤ 1000) (hd : ∀ p ∈ ls, p.d.length ≤ 1000000) :
    Calls Try.prog 60 #[.pointer (some ⟨xb, 0, none⟩), v] w (Ret fun r w' => r = .tuple #[.int .i64 (s.join (pds ls)).1, .int .i64 (s.join (pds ls)).2.1] ∧ SatL w' (RefR xb (s.join (pds ls)).2.2 :: L)) := by
  obtain ⟨a, c, rfl, q1, q2⟩ := (g w h.tail).1.1.valn
  go_enter Try.func60, Try.ntmps60
  go_wp2
  go_loopw [6] (fun i wr => ∃ j : Nat, j ≤ ls.length ∧ i = .int .i64 j ∧ joinE (pds ls) = joinE ((pds ls).drop j) ∧ SatL wr (RefR xb s :: L)) (fun i _ => ls.length - (intOf i).toNat)
  case atStart => exact ⟨0, by omega, rfl, rfl, h⟩
  case round =>
    clear h
    obtain ⟨j, hj, rfl, hE, hs⟩ := hrel
    by_cases hlt : j < ls.length
    · have hp : ls[j]? = some ls[j] := List.getElem?_eq_getElem hlt
      have gl := (g wr hs.tail).1
      obtain ⟨b, bo, rfl, _⟩ := gl.1.at (by omega)
      obtain ⟨k1, k2⟩ := RdPts.cell2 gl hp
      obtain ⟨va, vc, hv, i1, i2⟩ := gl.2 _ (List.getElem_mem hlt)
      rw [hv] at k2
      rw [joinE_drop (pds_get hp)] at hE
      have hso := refwrong_ok (b := ls[j].b) (a := va) (c := vc) (d := ls[j].d) rfl (by have := hd _ (List.getElem_mem hlt); omega) hs
      have hk1 : (j : Int) < ls.length := by omega
      generalize ls[j].b = qb at *
      generalize ls[j].d = qd at *
      have HE := hid hE
      clear hp hv gl hE
      by_cases h0 : soundE (qb, qd) = 0
      · have HE2 : Hid (joinE (pds ls) = joinE ((pds ls).drop (j + 1))) := hid (by rw [HE.out, if_neg (by simpa using h0)])
        rw [h0] at hso
        clear h0 HE
        go_wp2_with (go_at_call 48; (with_reducible refine hso.mono ?_); rintro e w2 ⟨r, rfl, rfl, h2⟩)
        go_roundw
        case rel => exact ⟨j + 1, by omega, by go_num, HE2.out, h2⟩
        case measure => simp [intOf]; omega
      · have HE2 : Hid (joinE (pds ls) = soundE (qb, qd)) := hid (by rw [HE.out, if_pos (by simpa using h0)])
        have h1 : (soundE (qb, qd) != 0) = true := by simpa using h0
        have HJ : Hid (s.join (pds ls) = (0, soundE (qb, qd), s)) := hid (by unfold LogS.join; rw [if_pos (by rw [HE2.out]; exact h0), HE2.out])
        generalize soundE (qb, qd) = e9 at *
        clear h0 HE HE2
        go_wp2_with (go_at_call 48; (with_reducible refine hso.mono ?_); rintro e w2 ⟨r, rfl, rfl, h2⟩)
        go_ret2
        exact Ret.mk ⟨by rw [HJ.out]; rfl, by rw [HJ.out]; exact h2⟩
    · obtain rfl : j = ls.length := by omega
      have e9 : (pds ls).drop ls.length = [] := List.drop_of_length_le (by rw [pds_len]; omega)
      have hE0 : joinE (pds ls) = 0 := by rw [hE, e9]; rfl
      have HE0 := hid hE0
      obtain ⟨lv, nv, rv, hf, h1⟩ := sat_RefR.1 hs
      obtain ⟨ps, hps, h2⟩ := sat_PutsL.1 (SatL.pull h1 1 : SatL wr (PutsL _ _ :: _))
      have h3 := sat_PutsR.1 h2
      have ones := pcells_one (PutsR.ptsl h2)
      have hpl : ps.length ≤ 64 := by have := hf.1.1; rw [← hps, List.length_map] at this; exact this
      have c3 : wr.cell? ⟨xb, 3, none⟩ = some lv := h1.cell (i := 3) rfl
      have b1 : ((0 : Nat) + ps.length) * 32 ≤ 140737488355328 := by omega
      have b2 : (0 : Nat) + ps.length ≤ maxLen := by unfold maxLen; omega
      have Hf := hid hf
      have Hps := hid (show pds ps = s.L from hps)
      have Hs := hid hs
      clear hE e9 hE0 h1 h2 hf hps hs
      obtain ⟨la, lc, rfl, m1, m2⟩ := SlK.valn h3
      go_wp2_with (refine wpList_append_sl rfl (.tmp 25) (.tmp 29) rfl elem_put rfl (SlK_nil h3) rfl (SrcOk.ofK elem_put.under h3) ones b1 b2 ?_; intro v' w' h6 _; rw [Nat.zero_add, List.nil_append] at h6)
      have hJ : SatL w' (JL xb s (.slice la ps.length lc) nv rv v' ps ps [] L) := by
        show SatL w' (_ :: _ :: big _ (ps ++ []) :: _)
        rw [List.append_nil]; exact h6
      clear h3 ones c3 b1 b2 h6
      go_wp2
      go_loopw [8, 9] (fun av iv wr => ∃ (j : Nat) (Q rest news : List Pt), j ≤ ls.length ∧ iv = .int .i64 j ∧ pds Q = gputs s.L ((pds ls).take j) ∧ (Q ++ rest).Perm (ps ++ news) ∧ SatL wr (JL xb s (.slice la ps.length lc) nv rv av Q ps news L)) (fun _ iv _ => ls.length - (intOf iv).toNat)
      case atStart => exact ⟨0, ps, [], [], by omega, rfl, by rw [Hps.out]; rfl, List.Perm.refl _, hJ⟩
      case round =>
        clear hJ hj hlt
        obtain ⟨j, Q, rest, news, hj, rfl, hQ, hperm, hs⟩ := hrel
        obtain ⟨qa, qc, rfl, r1, r2⟩ := SlK.valn hs
        have hQl : Q.length ≤ 64 + j := by
          have h1 := gputs_le s.L ((pds ls).take j)
          rw [← hQ, List.length_map, List.length_take] at h1
          have := Hf.out.1.1
          omega
        by_cases hlt : j < ls.length
        · have hp : ls[j]? = some ls[j] := List.getElem?_eq_getElem hlt
          have gl := (JL_L (xb := xb) (s := s) (lv := .slice la ps.length lc) (nv := nv) (rv := rv) (av := .slice qa Q.length qc) (Q := Q) (ps := ps) (news := news) g wr hs)
          obtain ⟨b, bo, rfl, _⟩ := gl.1.1.at (by omega)
          obtain ⟨k1, k2⟩ := RdPts.cell2 gl.1 hp
          obtain ⟨va, vc, hv, i1, i2⟩ := gl.1.2 _ (List.getElem_mem hlt)
          have hpl2 := place_ok (k := ls[j].b) hs (JL_rd hperm) (by omega)
          have hcl := fun (w' : World) (h' : SatL w' (JL xb s (.slice la ps.length lc) nv rv (.slice qa Q.length qc) Q ps news L)) => RdPts.cell2 (JL_L g w' h').1 hp
          have hrb : Gives (JL xb s (.slice la ps.length lc) nv rv (.slice qa Q.length qc) Q ps news L) (RdB ls[j].v ls[j].d) := fun w' h' => (JL_L g w' h').2 _ (List.getElem_mem hlt)
          rw [hv] at k2 hrb hcl
          have hdp : ls[j].d.length ≤ 1000000000 := by have := hd _ (List.getElem_mem hlt); omega
          have hsn : gputs s.L ((pds ls).take (j + 1)) = gput (pds Q) (ls[j].b, ls[j].d) := by
            rw [List.take_add_one, pds_get hp, Option.toList_some, gputs_snoc, hQ]
          have hk1 : (j : Int) < ls.length := by omega
          generalize ls[j].b = qb at *
          generalize ls[j].d = qd at *
          have htw := fun (w' : World) (h' : SatL w' (JL xb s (.slice la ps.length lc) nv rv (.slice qa Q.length qc) Q ps news L)) => twin_ok (b := qb) hdp h' hrb
          have HCL := hid hcl
          have HTW := hid htw
          have Hsn := hid hsn
          have HQ := hid hQ
          have Hperm := hid hperm
          have ek : (pds Q).map (·.1) = Q.map (·.b) := by simp
          clear hp hv gl hcl htw hsn hQ hperm hrb
          cases hpc : plc (Q.map (·.b)) qb with
          | none =>
            have hz : plcI (Q.map (·.b)) qb = -1 := by unfold plcI; rw [hpc]
            rw [hz] at hpl2
            have hgp : gput (pds Q) (qb, qd) = pds Q ++ [(qb, qd)] := by unfold gput; rw [ek, hpc]
            have Hgp := hid hgp
            clear hgp hpc hz ek
            go_wp2_with (first
              | (go_at_call 65; (with_reducible refine hpl2.mono ?_); rintro e w2 ⟨r, rfl, rfl, g1⟩; obtain ⟨c1, c2⟩ := HCL.out _ g1; have ht := HTW.out _ g1)
              | (go_at_call 75; (with_reducible refine ht.mono ?_); rintro e w3 ⟨r, rfl, ta, tc, rfl, t1, g2⟩; have g3 := SatL.swap g2)
              | (refine wpList_pushK_sl (nb := w3.heap.size) (cs := #[.int .i64 qb, .slice ta qd.length tc]) rfl rfl (.tmp 46) (.tmp 52) rfl elem_put (by omega) rfl g3 rfl rfl (by intro y hy; simp at hy; rcases hy with rfl | rfl <;> rfl) (by omega) ?_; intro v9 w9 g4))
            go_roundw
            case rel =>
              refine ⟨j + 1, Q ++ [⟨qb, .slice ta qd.length tc, qd⟩], rest, news ++ [⟨qb, .slice ta qd.length tc, qd⟩], by omega, by go_num, ?_, ?_, ?_⟩
              · rw [Hsn.out, Hgp.out, pds_snoc]
              · have h1 : ((Q ++ [(⟨qb, .slice ta qd.length tc, qd⟩ : Pt)]) ++ rest).Perm ((⟨qb, .slice ta qd.length tc, qd⟩ : Pt) :: (Q ++ rest)) := by
                  rw [List.append_assoc]; exact List.perm_middle
                rw [← List.append_assoc]
                exact h1.trans ((List.Perm.cons _ Hperm.out).trans (List.perm_append_comm (l₁ := [_])))
              · have g5 := g4.bring [1, 3, 0, 2]
                have g6 : SatL w9 (big (fun p : Pt => SlB 5 p.v p.d) ((ps ++ news) ++ [(⟨qb, .slice ta qd.length tc, qd⟩ : Pt)]) :: _) := big_mid.2 (by rw [List.append_nil]; exact g5)
                rw [List.append_assoc] at g6
                have g7 := g6.bring [1, 2, 0]
                show SatL w9 (SlK 29 2 v9 (Q ++ [(⟨qb, .slice ta qd.length tc, qd⟩ : Pt)]).length (pcells (Q ++ [(⟨qb, .slice ta qd.length tc, qd⟩ : Pt)])) :: _)
                rw [pcells_snoc, List.length_append, List.length_singleton]
                exact g7
            case measure => simp [intOf]; omega
          | some i =>
            have hil : i < Q.length := by have := plc_lt hpc; rwa [List.length_map] at this
            have hz : plcI (Q.map (·.b)) qb = i := by unfold plcI; rw [hpc]
            rw [hz] at hpl2
            have hgp : gput (pds Q) (qb, qd) = (pds Q).set i (qb, qd) := by unfold gput; rw [ek, hpc]
            have hqi : Q[i]? = some (Q[i]'hil) := List.getElem?_eq_getElem hil
            obtain ⟨ab, ao, rfl, _⟩ := (SlK.rdk hs).at (by omega)
            obtain ⟨x1, x2⟩ := pcells_get hqi
            have hcw := fun (w' : World) (L' : List HP) (h' : SatL w' (SlK 29 2 (.slice (some ⟨ab, ao, none⟩) Q.length qc) Q.length (pcells Q) :: L')) => (⟨SlK.cell h' x1, by rw [Nat.add_assoc]; exact SlK.cell h' x2, SlK.free h' (ao + i * 2), SlK.free h' (ao + i * 2 + 1)⟩ : w'.cell? ⟨ab, ao + i * 2, none⟩ = some (.int .i64 (Q[i]'hil).b) ∧ w'.cell? ⟨ab, ao + i * 2 + 1, none⟩ = some (Q[i]'hil).v ∧ w'.frozen? ⟨ab, ao + i * 2, none⟩ = false ∧ w'.frozen? ⟨ab, ao + i * 2 + 1, none⟩ = false)
            have hst := fun (w' : World) (tv : Value) (L' : List HP) (h' : SatL w' (SlK 29 2 (.slice (some ⟨ab, ao, none⟩) Q.length qc) Q.length (pcells Q) :: L')) => SlK.set (SlK.set h' (i := i * 2) (by rw [pcells_len]; omega) (.int .i64 qb)) (i := i * 2 + 1) (by rw [List.length_set, pcells_len]; omega) tv
            have Hgp := hid hgp
            have Hqi := hid hqi
            have HCW := hid hcw
            have HST := hid hst
            have hiz : (i : Int) < Q.length := by omega
            have hi0 : (0 : Int) ≤ i := by omega
            clear hgp hpc hz ek x1 x2 hcw hst hqi
            go_wp2_with (first
              | (go_at_call 65; (with_reducible refine hpl2.mono ?_); rintro e w2 ⟨r, rfl, rfl, g1⟩; obtain ⟨c1, c2⟩ := HCL.out _ g1; have ht := HTW.out _ g1)
              | (go_at_call 75; (with_reducible refine ht.mono ?_); rintro e w3 ⟨r, rfl, ta, tc, rfl, t1, g2⟩; have g3 := SatL.swap g2; obtain ⟨z0, z1, f0, f1⟩ := HCW.out _ _ g3; have g4 := HST.out _ (.slice ta qd.length tc) _ g3))
            go_roundw
            case rel =>
              refine ⟨j + 1, Q.set i ⟨qb, .slice ta qd.length tc, qd⟩, (Q[i]'hil) :: rest, news ++ [⟨qb, .slice ta qd.length tc, qd⟩], by omega, by go_num, ?_, ?_, ?_⟩
              · rw [Hsn.out, Hgp.out, pds_set]
              · rw [← List.append_assoc]
                exact perm_set Hqi.out Hperm.out
              · have e5 := pcells_set2 (p := ⟨qb, .slice ta qd.length tc, qd⟩) hil
                simp only at e5
                rw [e5] at g4
                have g5 := g4.bring [1, 3, 0, 2]
                have g6 : SatL _ (big (fun p : Pt => SlB 5 p.v p.d) ((ps ++ news) ++ [(⟨qb, .slice ta qd.length tc, qd⟩ : Pt)]) :: _) := big_mid.2 (by rw [List.append_nil]; exact g5)
                rw [List.append_assoc] at g6
                have g7 := g6.bring [1, 2, 0]
                show SatL _ (SlK 29 2 _ (Q.set i (⟨qb, .slice ta qd.length tc, qd⟩ : Pt)).length (pcells (Q.set i (⟨qb, .slice ta qd.length tc, qd⟩ : Pt))) :: _)
                rw [List.length_set]
                exact g7
            case measure => simp [intOf]; omega
        · obtain rfl : j = ls.length := by omega
          rw [List.take_of_length_le (by rw [pds_len]; omega)] at hQ
          have hQz : Q.length = (gputs s.L (pds ls)).length := by rw [← hQ, List.length_map]
          have hc := fun (w' : World) (h' : SatL w' (JL xb s (.slice la ps.length lc) nv rv (.slice qa Q.length qc) Q ps news L)) => (SatL.pull h' 3 : SatL w' (cl xb 77 (refCells (.slice la ps.length lc) nv rv s) :: _))
          by_cases h64 : 64 < Q.length
          · have HJ : Hid (s.join (pds ls) = (0, 7, s)) := hid (by unfold LogS.join; rw [if_neg (by simp [HE0.out]), if_pos (by omega)])
            have hfin : SatL wr (RefR xb s :: L) := by
              have h1 := big_append.1 (SatL.pull hs 2 : SatL wr (big _ (ps ++ news) :: _))
              have h2 := sat_PutsR.2 (h1.bring [3, 0])
              have h3 := sat_PutsL.2 ⟨ps, Hps.out, h2⟩
              exact sat_RefR.2 ⟨_, nv, rv, Hf.out, (SatL.tail (SatL.tail (h3.bring [1, 2, 3, 0, 4, 5])))⟩
            have h64z : (64 : Int) < Q.length := by omega
            have Hfin := hid hfin
            clear hfin hQ hQz hc hs h64 hperm
            go_wp2
            go_ret2
            exact Ret.mk ⟨by rw [HJ.out]; rfl, by rw [HJ.out]; exact Hfin.out⟩
          · have HJ : Hid (s.join (pds ls) = ((s.number : Int), 0, { s with L := gputs s.L (pds ls) })) := hid (by unfold LogS.join; rw [if_neg (by simp [HE0.out]), if_neg (by omega)])
            have hnew : Fit (gputs s.L (pds ls)) := ⟨by omega, gputs_all (F := fun p => soundE p = 0) (pds ls) Hf.out.1.2 (joinE_all HE0.out)⟩
            have c3 := (hc _ hs).cell (i := 3) (v := .slice la ps.length lc) rfl
            have f3 := (hc _ hs).free 3
            have c2 := (hc _ hs).cell (i := 2) (v := .int .i64 s.number) rfl
            have h1 := (SatL.pull hs 3 : SatL wr (cl xb _ _ :: _)).set (i := 3) (.slice qa Q.length qc)
            have hfin : SatL (wr.setCell ⟨xb, 3, none⟩ (.slice qa Q.length qc)) (RefR xb { s with L := gputs s.L (pds ls) } :: L) := by
              have h2 := big_append.1 (big_perm hperm.symm (SatL.pull h1 3 : SatL _ (big _ (ps ++ news) :: _)))
              have h3 := sat_PutsR.2 (h2.bring [3, 0])
              have h4 := sat_PutsL.2 ⟨Q, hQ, h3⟩
              exact sat_RefR.2 ⟨_, nv, rv, ⟨hnew, Hf.out.2⟩, (SatL.tail (SatL.tail (h4.bring [1, 3, 2, 0, 4, 5])))⟩
            have h64z : ¬ (64 : Int) < Q.length := by omega
            have Hfin := hid hfin
            clear hfin hQ hQz hc hs h64 hperm h1 hnew
            go_wp2
            go_ret2
            exact Ret.mk ⟨by rw [HJ.out]; rfl, by rw [HJ.out]; exact Hfin.out⟩
end
end Go.Proofs.Ytjjnadlklfegcaa

namespace Go.Proofs.Ytjjnadlklfegcaa
set_option linter.unusedVariables false
set_option linter.unusedSimpArgs false
open Go.RowKit

section
variable {w : World} {L : List HP} {xb : Nat} {s : LogS}
/-- the log's cells behind the phase's beginning -/
abbrev rentCells (lv nv rv : Value) (s : LogS) (p : Nat) : Array Value := refCells lv nv rv { s with phase := p, R := [], told := 0, don := 0 }
theorem rent_fin {lv nv rv : Value} {p : Nat} (hf : Fit s.L ∧ Fit s.N) (h : SatL w (cl xb 77 (rentCells lv nv rv s p) :: ReqsL rv (reqsOf s p) :: PutsL lv s.L :: PutsL nv s.N :: L)) :
    SatL w (RefR xb (s.enter p) :: L) :=
  sat_RefR.2 ⟨lv, nv, rv, hf, h.bring [0, 2, 3, 1]⟩
theorem rent_one {lv nv u : Value} {p nb : Nat} {k b n : Int} {d : List UInt8} {qs : List Pt} (hf : Fit s.L ∧ Fit s.N) (hqs : pds qs = s.N) (hR : reqsOf s p = [⟨k, b, n, d⟩])
    (h : SatL w (cl xb 77 (rentCells lv nv (.slice (some ⟨nb, 0, none⟩) 1 1) s p) :: cl nb 80 #[.int .i64 k, .int .i64 b, .int .i64 n, u] :: SlB 5 u d :: PutsR nv qs :: PutsL lv s.L :: L)) :
    SatL w (RefR xb (s.enter p) :: L) := by
  have h1 := sat_PutsL.2 ⟨qs, hqs, (SatL.pull h 3 : SatL w (PutsR _ _ :: _))⟩
  have h2 := ReqsR.one (h1.bring [2, 3])
  have h3 := sat_ReqsL.2 ⟨_, rfl, h2⟩
  refine rent_fin (lv := lv) (nv := nv) (rv := .slice (some ⟨nb, 0, none⟩) 1 1) hf ?_
  rw [hR]
  exact h3.bring [2, 0, 3, 1]
set_option maxRecDepth 100000 in
set_option maxHeartbeats 8000000 in
theorem refenterA_ok {p : Nat} (hp : (p = 2 ∨ p = 4 ∨ p = 6 ∨ p = 8) ∨ p = 1 ∨ p = 5) (hq : s.seq < 18446744073709551616) (hst : 0 ≤ s.start ∧ s.start ≤ 4611686018427387904) (hN : recErr s.N = 0) (h : SatL w (RefR xb s :: L)) :
    Calls Try.prog 76 #[.pointer (some ⟨xb, 0, none⟩), .int .i64 p] w (Ret fun r w' => SatL w' (RefR xb (s.enter p) :: L)) := by
  obtain ⟨lv, nv, rv, hf, h1⟩ := sat_RefR.1 h
  have hNl := hf.2.1
  have h2 := ((h1.set (i := 5) (.int .i64 p)).set (i := 6) (.slice none 0 0)).set (i := 7) (.int .i64 0)
  have c5 : w.cell? ⟨xb, 5, none⟩ = some (.int .i64 s.phase) := h1.cell (i := 5) rfl
  have f5 := h1.free 5
  have c6 : w.cell? ⟨xb, 6, none⟩ = some rv := h1.cell (i := 6) rfl
  have f6 := h1.free 6
  have c7 : w.cell? ⟨xb, 7, none⟩ = some (.int .i64 ((s.told : Int) - s.don)) := h1.cell (i := 7) rfl
  have f7 := h1.free 7
  have e2 : ((((refCells lv nv rv s).setIfInBounds 5 (.int .i64 p)).setIfInBounds 6 (.slice none 0 0)).setIfInBounds 7 (.int .i64 0)) = rentCells lv nv (.slice none 0 0) s p := rfl
  rw [e2] at h2
  clear h h1 e2
  go_enter Try.func76, Try.ntmps76
  go_upto_region 3 with fail
  generalize ((w.setCell ⟨xb, 5, none⟩ (.int .i64 p)).setCell ⟨xb, 6, none⟩ (.slice none 0 0)).setCell ⟨xb, 7, none⟩ (.int .i64 0) = w1 at *
  clear c5 f5 c6 f6 c7 f7
  obtain ⟨qs, hqs, h3⟩ := sat_PutsL.1 (SatL.pull h2 2 : SatL w1 (PutsL _ _ :: _))
  have hrec := fun (w' : World) (L' : List HP) (h : SatL w' (PutsR nv qs :: L')) => refrecord_of (seq := s.seq) hq hqs (show recLast s.seq s.N = (((1 + s.N.length : Nat) : Int), endB s.seq s.N) by unfold recLast; rw [if_pos hN]; rfl) hN (show recOut s.seq s.N = recRows s.seq s.N by unfold recOut; rw [if_pos hN]) (by omega) h
  obtain ⟨tb, htb⟩ : ∃ tb : Int, tb = ((1 + s.N.length : Nat) : Int) := ⟨_, rfl⟩
  rw [← htb] at hrec
  have hA := sat_drew.2 h3
  have hB := sat_drew.2 ((h3.alloc (.cells #[.int .i64 0, .slice none 0 0] 29)).swap)
  obtain ⟨na, nc, rfl, n1, n2⟩ := (PutsR.rdpts h3).1.valn
  have a0 : w1.drew.cell? ⟨xb, 1, none⟩ = some (.int .u64 s.seq) ∧ w1.drew.cell? ⟨xb, 4, none⟩ = some (.slice na qs.length nc) := ⟨SatL.cell (SatL.pull hA 1 : SatL _ (cl _ _ _ :: _)) (i := 1) rfl, SatL.cell (SatL.pull hA 1 : SatL _ (cl _ _ _ :: _)) (i := 4) rfl⟩
  have b0 : (w1.alloc (.cells #[.int .i64 0, .slice none 0 0] 29)).drew.cell? ⟨xb, 1, none⟩ = some (.int .u64 s.seq) ∧ (w1.alloc (.cells #[.int .i64 0, .slice none 0 0] 29)).drew.cell? ⟨xb, 4, none⟩ = some (.slice na qs.length nc) := ⟨SatL.cell (SatL.pull hB 2 : SatL _ (cl _ _ _ :: _)) (i := 1) rfl, SatL.cell (SatL.pull hB 2 : SatL _ (cl _ _ _ :: _)) (i := 4) rfl⟩
  have hqz : ((p : Nat) : Int) ≤ 8 := by omega
  have Hqs := hid hqs
  have HN := hid hN
  have Htb := hid htb
  have Hf := hid hf
  clear h2 h3 hqs hN htb hf
  go_cut [4, 5] from 22 to 34 (fun r4 r5 wr => ∃ (oa : Option Addr) (on oc eb : Nat) (ea : Option Addr) (en ec : Nat), r4 = .slice oa on oc ∧ r5 = .pointer (some ⟨eb, 0, none⟩) ∧ SatL wr (PutsL (.slice oa on oc) (recRows s.seq s.N) :: SlB 5 (.slice ea en ec) (endB s.seq s.N) :: cl eb 29 #[.int .i64 tb, .slice ea en ec] :: PutsR (.slice na qs.length nc) qs :: cl xb 77 (rentCells lv (.slice na qs.length nc) (.slice none 0 0) s p) :: PutsL lv s.L :: L))
  case first =>
    go_region_held (fun w' => w'.cell? ⟨xb, 1, none⟩ = some (.int .u64 s.seq) ∧ w'.cell? ⟨xb, 4, none⟩ = some (.slice na qs.length nc))
      (first | with_reducible exact a0 | with_reducible exact b0 | with_reducible exact m2 | with_reducible exact m2B | with_reducible exact m3 | with_reducible exact m4 | go_keep)
      (first
        | (go_at_call 14; first
            | ((with_reducible refine (hrec _ _ hA).mono ?_); rintro e w2 ⟨v2, rfl, ov, ea, en, ec, rfl, hC⟩; have m2 : w2.cell? ⟨xb, 1, none⟩ = some (.int .u64 s.seq) ∧ w2.cell? ⟨xb, 4, none⟩ = some (.slice na qs.length nc) := ⟨SatL.cell (SatL.pull hC 3 : SatL _ (cl _ _ _ :: _)) (i := 1) rfl, SatL.cell (SatL.pull hC 3 : SatL _ (cl _ _ _ :: _)) (i := 4) rfl⟩; have hE := hC.alloc (.cells #[.int .i64 0, .slice none 0 0] 29); have m3 : (w2.alloc (.cells #[.int .i64 0, .slice none 0 0] 29)).cell? ⟨xb, 1, none⟩ = some (.int .u64 s.seq) ∧ (w2.alloc (.cells #[.int .i64 0, .slice none 0 0] 29)).cell? ⟨xb, 4, none⟩ = some (.slice na qs.length nc) := ⟨SatL.cell (SatL.pull hE 4 : SatL _ (cl _ _ _ :: _)) (i := 1) rfl, SatL.cell (SatL.pull hE 4 : SatL _ (cl _ _ _ :: _)) (i := 4) rfl⟩; obtain ⟨oa, oc, rfl, o1, o2⟩ := PutsL.valn hC; have z0 := SatL.cell (hE : SatL _ (cl _ _ _ :: _)) (i := 0) rfl; have f0 := SatL.free (hE : SatL _ (cl _ _ _ :: _)) 0; have z1 := SatL.cell (hE : SatL _ (cl _ _ _ :: _)) (i := 1) rfl; have f1 := SatL.free (hE : SatL _ (cl _ _ _ :: _)) 1; have hG := hC.alloc (.cells #[.int .i64 tb, .slice ea en ec] 29); have m4 := (⟨SatL.cell (SatL.pull hG 4 : SatL _ (cl _ _ _ :: _)) (i := 1) (v := .int .u64 s.seq) rfl, SatL.cell (SatL.pull hG 4 : SatL _ (cl _ _ _ :: _)) (i := 4) (v := .slice na qs.length nc) rfl⟩ : _ ∧ _))
            | ((with_reducible refine (hrec _ _ hB).mono ?_); rintro e w2 ⟨v2, rfl, ov, ea, en, ec, rfl, hC⟩; have m2B : w2.cell? ⟨xb, 1, none⟩ = some (.int .u64 s.seq) ∧ w2.cell? ⟨xb, 4, none⟩ = some (.slice na qs.length nc) := ⟨SatL.cell (SatL.pull hC 4 : SatL _ (cl _ _ _ :: _)) (i := 1) rfl, SatL.cell (SatL.pull hC 4 : SatL _ (cl _ _ _ :: _)) (i := 4) rfl⟩; have hE := (SatL.pull hC 3 : SatL _ (cl _ _ _ :: _)); obtain ⟨oa, oc, rfl, o1, o2⟩ := PutsL.valn hC; have z0 := SatL.cell (hE : SatL _ (cl _ _ _ :: _)) (i := 0) rfl; have f0 := SatL.free (hE : SatL _ (cl _ _ _ :: _)) 0; have z1 := SatL.cell (hE : SatL _ (cl _ _ _ :: _)) (i := 1) rfl; have f1 := SatL.free (hE : SatL _ (cl _ _ _ :: _)) 1; have hG := put_chain (.int .i64 tb) (.slice ea en ec) hE; have m4 := (⟨SatL.cell (SatL.pull hG 4 : SatL _ (cl _ _ _ :: _)) (i := 1) (v := .int .u64 s.seq) rfl, SatL.cell (SatL.pull hG 4 : SatL _ (cl _ _ _ :: _)) (i := 4) (v := .slice na qs.length nc) rfl⟩ : _ ∧ _))))
    all_goals
      go_wp2
      go_meet
      exact ⟨_, _, _, _, _, _, _, rfl, rfl, SatL.tail (hG.bring [6, 1, 2, 0, 3, 4, 5])⟩
  case rest =>
    obtain ⟨oa, on, oc, eb, ea, en, ec, rfl, rfl, h5⟩ := hcut
    have hqp : p ≤ 8 := by omega
    rcases hp with hev | rfl | rfl
    · have hE := h5.alloc (.cells #[.int .i64 4, .int .i64 0, .int .i64 0, .slice none 0 0] 80)
      have z0 := SatL.cell (SatL.pull hE 5 : SatL _ (cl xb _ _ :: _)) (i := 6) (v := .slice none 0 0) rfl
      have f0 := SatL.free (SatL.pull hE 5 : SatL _ (cl xb _ _ :: _)) 6
      have hF := (SatL.pull hE 5 : SatL _ (cl xb _ _ :: _)).set (i := 6) (.slice (some ⟨wc.heap.size, 0, none⟩) 1 1)
      have hG : SatL _ (cl xb 77 (rentCells lv (.slice na qs.length nc) (.slice (some ⟨wc.heap.size, 0, none⟩) 1 1) s p) :: cl wc.heap.size 80 #[.int .i64 4, .int .i64 0, .int .i64 0, .slice none 0 0] :: PutsR (.slice na qs.length nc) qs :: PutsL lv s.L :: L) := SatL.tail (SatL.tail (SatL.tail (hF.bring [2, 3, 4, 0, 1, 5, 6])))
      have hH := rent_one Hf.out Hqs.out (show reqsOf s p = [⟨4, 0, 0, []⟩] by rcases hev with rfl | rfl | rfl | rfl <;> rfl) ((Sl_nil hG).bring [1, 2, 0])
      clear h5 hE hF hG hrec hA hB a0 b0
      rcases hev with rfl | rfl | rfl | rfl
      all_goals
        go_wp2
        go_end0
        exact Ret.mk hH
    · have h6 := sat_drew.2 h5
      have k8 := SatL.cell (SatL.pull h6 4 : SatL _ (cl xb _ _ :: _)) (i := 0) (v := .int .i64 s.start) rfl
      obtain ⟨w4, rM, h7⟩ := run_make_sl elem_byte h6 512 (by omega) (by omega)
      rw [show ((512 : Nat) : Int) = 512 from rfl] at rM
      have k9 := SatL.cell (SatL.pull h7 5 : SatL _ (cl xb _ _ :: _)) (i := 0) (v := .int .i64 s.start) rfl
      have hE := h7.alloc (.cells #[.int .i64 1, .int .i64 s.start, .int .i64 0, .slice (some ⟨wc.heap.size, 0, none⟩) 512 512] 80)
      have z0 := SatL.cell (SatL.pull hE 6 : SatL _ (cl xb _ _ :: _)) (i := 6) (v := .slice none 0 0) rfl
      have f0 := SatL.free (SatL.pull hE 6 : SatL _ (cl xb _ _ :: _)) 6
      have hF := (SatL.pull hE 6 : SatL _ (cl xb _ _ :: _)).set (i := 6) (.slice (some ⟨w4.heap.size, 0, none⟩) 1 1)
      have hG : SatL _ (cl xb 77 (rentCells lv (.slice na qs.length nc) (.slice (some ⟨w4.heap.size, 0, none⟩) 1 1) s 1) :: cl w4.heap.size 80 #[.int .i64 1, .int .i64 s.start, .int .i64 0, .slice (some ⟨wc.heap.size, 0, none⟩) 512 512] :: Sl 5 (.slice (some ⟨wc.heap.size, 0, none⟩) 512 512) (List.replicate 512 (.int .u8 0)) :: PutsR (.slice na qs.length nc) qs :: PutsL lv s.L :: L) := SatL.tail (SatL.tail (SatL.tail (hF.bring [3, 4, 5, 0, 1, 2, 6, 7])))
      rw [← bvs_zeros] at hG
      have hH := rent_one Hf.out Hqs.out (show reqsOf s 1 = [⟨1, s.start, 0, List.replicate 512 0⟩] from rfl) hG
      clear h5 h6 h7 hE hF hG hrec hA hB a0 b0
      go_wp2
      go_region
      go_wp2
      go_end0
      exact Ret.mk hH
    · obtain ⟨rs, hrs, h6⟩ := sat_PutsL.1 h5
      obtain ⟨hv, rt, rfl, hrt⟩ := rows_head hrs
      obtain ⟨ra, rc, hro, r1, r2⟩ := (PutsR.rdpts h6).1.valn
      cases hro
      obtain ⟨rb, ro, rfl, _⟩ := (PutsR.rdpts h6).1.at (by simp)
      obtain ⟨ha, hc, hhv, i1, i2⟩ := PutsR.ptsl h6 _ (List.mem_cons_self ..)
      simp only at hhv
      rw [headB_len (by omega)] at hhv
      subst hhv
      have h7 := sat_drew.2 h6
      have k8 := SatL.cell (SatL.pull h7 4 : SatL _ (cl xb _ _ :: _)) (i := 0) (v := .int .i64 s.start) rfl
      have kd := (PutsR.cell2 h7 (j := 0) rfl).2
      rw [Nat.zero_mul, Nat.add_zero] at kd
      have k0 : (0 : Int) < ((({ b := 0, v := .slice ha 512 hc, d := headB s.seq s.N } : Pt) :: rt).length : Nat) := by simp
      have hE := sat_drew.2 (h6.alloc (.cells #[.int .i64 1, .int .i64 s.start, .int .i64 0, .slice ha 512 hc] 80))
      have z0 := SatL.cell (SatL.pull hE 5 : SatL _ (cl xb _ _ :: _)) (i := 6) (v := .slice none 0 0) rfl
      have f0 := SatL.free (SatL.pull hE 5 : SatL _ (cl xb _ _ :: _)) 6
      have hF := (SatL.pull hE 5 : SatL _ (cl xb _ _ :: _)).set (i := 6) (.slice (some ⟨wc.heap.size, 0, none⟩) 1 1)
      have hF2 := big_cons.1 (SatL.pull (sat_PutsR.1 (SatL.pull hF 2 : SatL _ (PutsR _ _ :: _))) 1 : SatL _ (big _ _ :: _))
      have hG : SatL _ (cl xb 77 (rentCells lv (.slice na qs.length nc) (.slice (some ⟨wc.heap.size, 0, none⟩) 1 1) s 5) :: cl wc.heap.size 80 #[.int .i64 1, .int .i64 s.start, .int .i64 0, .slice ha 512 hc] :: SlB 5 (.slice ha 512 hc) (headB s.seq s.N) :: PutsR (.slice na qs.length nc) qs :: PutsL lv s.L :: L) := SatL.tail (SatL.tail (SatL.tail (SatL.tail (hF2.bring [1, 2, 5, 6, 3, 4, 0, 7, 8]))))
      have hH := rent_one Hf.out Hqs.out (show reqsOf s 5 = [⟨1, s.start, 0, headB s.seq s.N⟩] from rfl) hG
      clear h5 h6 h7 hE hF hF2 hG hrec hA hB a0 b0 hrs hrt r1
      generalize ((({ b := 0, v := .slice ha 512 hc, d := headB s.seq s.N } : Pt) :: rt).length : Nat) = rn at *
      go_wp2
      go_region
      go_wp2
      go_end0
      exact Ret.mk hH
end
end Go.Proofs.Ytjjnadlklfegcaa

namespace Go.Proofs.Ytjjnadlklfegcaa
set_option linter.unusedVariables false
set_option linter.unusedSimpArgs false

section
variable {P : Program} {ops : Array Oper} {Q : Exit → Act → World → Prop} {md : Region.Mode} {S : World → Prop} {m : Nat}

/-- what is listed is listed with all that it waits for -/
def Shutl (md : Region.Mode) (ops : Array Oper) (li : Array Bool) : Prop := ∀ k, li.getD k false = true → ∀ o, ops[k]? = some o → ∀ e ∈ o.after, Region.binds md e = true → li.getD e.on false = true
/-- each operation ahead of number m is waited for by one behind it -/
def coverB (md : Region.Mode) (ops : Array Oper) (m : Nat) : Bool := (List.range m).all fun k => (List.range (m + 1)).any fun j => decide (k < j) && match ops[j]? with | some o => o.after.any (fun e => Region.binds md e && e.on == k) | none => false
theorem coverB_spec (h : coverB md ops m = true) {k : Nat} (hk : k < m) : ∃ j o e, k < j ∧ j ≤ m ∧ ops[j]? = some o ∧ e ∈ o.after ∧ Region.binds md e = true ∧ e.on = k := by
  unfold coverB at h
  have h1 := List.all_eq_true.1 h k (List.mem_range.2 hk)
  obtain ⟨j, hj, h2⟩ := List.any_eq_true.1 h1
  rw [Bool.and_eq_true] at h2
  obtain ⟨h3, h4⟩ := h2
  cases ho : ops[j]? with
  | none => rw [ho] at h4; cases h4
  | some o =>
    rw [ho] at h4
    simp only at h4
    obtain ⟨i, hi, h5⟩ := Array.any_eq_true.1 h4
    rw [Bool.and_eq_true, beq_iff_eq] at h5
    exact ⟨j, o, _, of_decide_eq_true h3, by have := List.mem_range.1 hj; omega, ho, Array.getElem_mem hi, h5.1, h5.2⟩
theorem Shutl.set {li : Array Bool} {j : Nat} (h : Shutl md ops li) (hj : j ∈ Region.ready md ops li) : Shutl md ops (li.setIfInBounds j true) := by
  intro k hk o ho e he hb
  by_cases hkj : j = k
  · subst hkj
    obtain ⟨_, o', ho', hall⟩ := mem_ready.1 hj
    rw [ho] at ho'
    cases ho'
    exact getD_set_true (hall e he hb)
  · rw [getD_set_ne false hkj] at hk
    exact getD_set_true (h k hk o ho e he hb)
/-- number m comes last -/
theorem cover_last {li : Array Bool} (hc : coverB md ops m = true) (h : Shutl md ops li) (hm : m ∈ Region.ready md ops li) : ∀ d k, k + d + 1 = m → li.getD k false = true := by
  obtain ⟨_, om, hom, hall⟩ := mem_ready.1 hm
  intro d
  induction d using Nat.strongRecOn with
  | ind d ih =>
    intro k hk
    obtain ⟨j, o, e, h1, h2, h3, h4, h5, rfl⟩ := coverB_spec hc (k := k) (by omega)
    by_cases hjm : j = m
    · subst hjm
      rw [hom] at h3
      cases h3
      exact hall e h4 h5
    · exact h j (ih (m - 1 - j) (by omega) j (by omega)) o h3 e h4 h5

/-- whatever order comes: S holds behind each operation but number m -/
def AnyE (P : Program) (md : Region.Mode) (ops : Array Oper) (Q : Exit → Act → World → Prop) (S : World → Prop) (m : Nat) : Nat → Array Bool → Act → World → Prop
  | 0, li, a, w => Region.ready md ops li = [] ∧ Q .normal a w
  | n + 1, li, a, w => (Region.ready md ops li = [] → Q .normal a w) ∧ ∀ i ∈ Region.ready md ops li, wpOp P ops Q i (fun a' w' => (i ≠ m → S w') ∧ AnyE P md ops Q S m n (li.setIfInBounds i true) a' w') a w
theorem AnyE.any : ∀ (n : Nat) (li : Array Bool) (a : Act) (w : World), AnyE P md ops Q S m n li a w → wpAny P md ops Q n li a w
  | 0, _, _, _, h => h
  | n + 1, _, _, _, h => ⟨h.1, fun i hi => wpOp_mono (fun a' w' k => AnyE.any n _ a' w' k.2) (h.2 i hi)⟩
theorem AnyE.first {i : Nat} {o : Oper} {v : Value} (hcov : coverB md ops m = true) (him : i < m) (hi : ops[i]? = some o) (hsel : Region.noSelect ops = true)
    (hQ : ∀ c a w, Q (.panic c) (a.put o.dst v) w → Q (.panic c) a w) : ∀ (n : Nat) (li : Array Bool) (a : Act) (w : World),
    Shutl md ops li → (∀ j oj, ops[j]? = some oj → j ≠ i → li.getD j true = false → (∀ e ∈ oj.after, Region.binds md e = true → e.on ≠ i) → o.apart ops oj = true) →
    i ∈ Region.ready md ops li → YieldsIf P ops S o v a → S w → AnyE P md ops Q S m n (li.setIfInBounds i true) (a.put o.dst v) w → AnyE P md ops Q S m (n + 1) li a w := by
  intro n
  induction n with
  | zero =>
    intro li a w hc hf hr hy hS H
    refine ⟨fun e => absurd hr (by rw [e]; exact List.not_mem_nil), fun j hj => ?_⟩
    by_cases e : j = i
    · subst e; exact hy.wpOp hi hS ⟨fun _ => hS, H⟩
    · have := ready_mono hj e
      rw [H.1] at this
      exact absurd this List.not_mem_nil
  | succ n ih =>
    intro li a w hc hf hr hy hS H
    refine ⟨fun e => absurd hr (by rw [e]; exact List.not_mem_nil), fun j hj => ?_⟩
    by_cases e : j = i
    · subst e; exact hy.wpOp hi hS ⟨fun _ => hS, H⟩
    · have k1 := H.2 j (ready_mono hj e)
      obtain ⟨u1, oj, u2, u3⟩ := mem_ready.1 hj
      have v0 : li.getD i false = false := by
        have v2 := (mem_ready.1 hr).1
        rcases Nat.lt_or_ge i li.size with q | q
        · simp [q] at v2 ⊢; exact v2
        · simp [Array.getElem?_eq_none q]
      have hjm : j ≠ m := by
        intro q
        subst q
        have := cover_last hcov hc hj (j - 1 - i) i (by omega)
        rw [v0] at this; cases this
      have u4 : ∀ e ∈ oj.after, Region.binds md e = true → e.on ≠ i := fun e he hb q => by
        have v1 := u3 e he hb
        rw [q, v0] at v1
        cases v1
      have k2 := wpOp_putIf u2 (hf j oj u2 e u1 u4) (fun cs b => Region.noSelect_spec hsel i o cs b hi) (fun cs b => Region.noSelect_spec hsel j oj cs b u2) hQ hy k1
      refine wpOp_mono (fun a' w' k3 => ?_) k2
      have hS' := k3.2.1 hjm
      refine ⟨fun _ => hS', ih _ a' w' (hc.set hj) (fun k ok q1 q2 q3 q4 => hf k ok q1 q2 ?_ q4) (ready_mono hr (Ne.symm e)) k3.1 hS' ?_⟩
      · by_cases q : j = k
        · subst q; exact u1
        · rwa [getD_set_ne true q] at q3
      · rw [Array.setIfInBounds_comm _ _ e]
        exact k3.2.2

/-! the moves; what is listed hangs together: carried along -/
def GoE (P : Program) (md : Region.Mode) (l : List Oper) (Q : Exit → Act → World → Prop) (S : World → Prop) (m n : Nat) (li : Array Bool) (a : Act) (w : World) : Prop := Shutl md l.toArray li → AnyE P md l.toArray Q S m n li a w
variable {l : List Oper}
theorem drop_get {i : Nat} {o : Oper} {r : List Oper} (hi : l.drop i = o :: r) : l.toArray[i]? = some o := by
  rw [List.getElem?_toArray]
  have := congrArg (fun x => x[0]?) hi
  simpa using this
theorem GoE.take {i n : Nat} {o : Oper} {r : List Oper} {v : Value} {li : Array Bool} {a : Act} {w : World} (hi : l.drop i = o :: r) (him : i < m) (hcov : coverB md l.toArray m = true) (hs : Region.noSelect l.toArray = true) (hf : Region.free md l.toArray li i = true)
    (hr : (Region.ready md l.toArray li).contains i = true) (hQ : ∀ c a w, Q (.panic c) (a.put o.dst v) w → Q (.panic c) a w) (hw : Region.wanted o (yielded l.toArray a.tmps) = true) (hy : ∀ w, S w → (execOp a.eval o).run P w = .ok (.value v) w) (hS : S w)
    (h : GoE P md l Q S m n (li.setIfInBounds i true) (a.put o.dst v) w) : GoE P md l Q S m (n + 1) li a w := fun hc => by
  have hr' : i ∈ Region.ready md l.toArray li := by simpa using hr
  exact AnyE.first hcov him (drop_get hi) hs hQ n li a w hc (fun j oj => Region.free_spec (drop_get hi) hf j oj) hr' (.inl ⟨hw, hy⟩) hS (h (hc.set hr'))
/-- one alone may come up -/
theorem GoE.one {i n : Nat} {o : Oper} {r : List Oper} {li : Array Bool} {a : Act} {w : World} (hi : l.drop i = o :: r) (hr : Region.ready md l.toArray li = [i])
    (h : ∀ K' : Act → World → Prop, Shut (∀ a w, (i ≠ m → S w) → GoE P md l Q S m n (li.setIfInBounds i true) a w → K' a w) → if Region.wanted o (yielded l.toArray a.tmps) = true then Oper.wp P o a w K' Q else K' (a.put o.dst undef) w) : GoE P md l Q S m (n + 1) li a w := fun hc => by
  have hr' : i ∈ Region.ready md l.toArray li := by rw [hr]; simp
  refine ⟨fun e => absurd hr (by rw [e]; simp), fun j hj => ?_⟩
  rw [hr] at hj
  obtain rfl : j = i := by simpa using hj
  exact wpOp_step (drop_get hi) (fun K' hK => h K' (fun a w hS hG => hK a w ⟨hS, hG (hc.set hr')⟩))
theorem GoE.done {n : Nat} {li : Array Bool} {a : Act} {w : World} (hr : Region.ready md l.toArray li = []) (h : Q .normal a w) : GoE P md l Q S m n li a w := fun _ => by
  cases n with
  | zero => exact ⟨hr, h⟩
  | succ n => exact ⟨fun _ => h, by rw [hr]; simp⟩
theorem GoE.start {id : Nat} {a : Act} {w : World} (S : World → Prop) (m n : Nat) (hn : l.length = n) (hm : P.follows .mixedOrders = true) (h : GoE P .any l Q S m n (Array.replicate n false) a w.drew) : (Code.region id l.toArray true).wp P Q a w := by
  subst hn
  refine wp_region_any hm (AnyE.any (S := S) (m := m) _ _ _ _ ?_)
  have : l.toArray.size = l.length := List.size_toArray ..
  rw [this]
  refine h fun k hk => ?_
  simp [Array.getElem?_replicate] at hk
  split at hk <;> simp at hk
end
end Go.Proofs.Ytjjnadlklfegcaa

namespace Go.Proofs.Ytjjnadlklfegcaa
set_option linter.unusedVariables false
set_option linter.unusedSimpArgs false
open Go.RowKit

theorem emptyPuts' {w : World} {L : List HP} (h : SatL w L) : SatL (w.alloc (.cells #[] 29)) (SlK 29 2 (.slice (some ⟨w.heap.size, 0, none⟩) 0 0) 0 [] :: L) :=
  sat_SlK.2 (.inr ⟨w.heap.size, 0, 0, #[], ⟨rfl, Nat.le_refl _, by decide, rfl, by simp, rfl⟩, h.alloc _⟩)
theorem emptyPutsN' {w : World} {L : List HP} {n : Nat} (hn : n = w.heap.size) (h : SatL w L) : SatL (w.alloc (.cells #[] 29)) (SlK 29 2 (.slice (some ⟨n, 0, none⟩) 0 0) 0 [] :: L) := by
  subst hn; exact emptyPuts' h
section
variable {w : World} {L : List HP} {xb : Nat} {s : LogS}
theorem PutsR.rest1 {b off c : Nat} {p : Pt} {ps : List Pt} (h : SatL w (PutsR (.slice (some ⟨b, off, none⟩) (ps.length + 1) c) (p :: ps) :: L)) :
    SatL w (PutsR (.slice (some ⟨b, off + 2, none⟩) ps.length (c - 1)) ps :: L) := by
  have h1 := sat_PutsR.1 h
  obtain ⟨_, _, e, h2, _⟩ := SlK.valn h1
  have e1 := e
  injection e1 with _ _ e2
  have h3 := SlK.slice3 (i := 1) (j := ps.length + 1) (m := c) h1 (by omega) (by simp) (by rw [e2]; simpa using h2) (Nat.le_refl _)
  have e3 : ((pcells (p :: ps)).take ((ps.length + 1) * 2)).drop (1 * 2) = pcells ps := by
    rw [List.take_of_length_le (by rw [pcells_len, List.length_cons]; omega)]; rfl
  rw [e3, Nat.one_mul, Nat.add_sub_cancel] at h3
  have h4 := (big_cons.1 h3.swap).tail
  exact sat_PutsR.2 h4.swap
set_option maxRecDepth 100000 in
set_option maxHeartbeats 8000000 in
theorem refenter3_ok {p : Nat} (hp : p = 3) (hq : s.seq < 18446744073709551616) (hst : 0 ≤ s.start ∧ s.start ≤ 4611686018427387904) (hN : recErr s.N = 0) (h : SatL w (RefR xb s :: L)) :
    Calls Try.prog 76 #[.pointer (some ⟨xb, 0, none⟩), .int .i64 p] w (Ret fun r w' => SatL w' (RefR xb (s.enter p) :: L)) := by
  have Hp := hid hp
  have hp8 : p ≤ 8 := by omega
  clear hp
  obtain ⟨lv, nv, rv, hf, h1⟩ := sat_RefR.1 h
  have hNl := hf.2.1
  have h2 := ((h1.set (i := 5) (.int .i64 p)).set (i := 6) (.slice none 0 0)).set (i := 7) (.int .i64 0)
  have c5 : w.cell? ⟨xb, 5, none⟩ = some (.int .i64 s.phase) := h1.cell (i := 5) rfl
  have f5 := h1.free 5
  have c6 : w.cell? ⟨xb, 6, none⟩ = some rv := h1.cell (i := 6) rfl
  have f6 := h1.free 6
  have c7 : w.cell? ⟨xb, 7, none⟩ = some (.int .i64 ((s.told : Int) - s.don)) := h1.cell (i := 7) rfl
  have f7 := h1.free 7
  have e2 : ((((refCells lv nv rv s).setIfInBounds 5 (.int .i64 p)).setIfInBounds 6 (.slice none 0 0)).setIfInBounds 7 (.int .i64 0)) = rentCells lv nv (.slice none 0 0) s p := rfl
  rw [e2] at h2
  clear h h1 e2
  go_enter Try.func76, Try.ntmps76
  go_upto_region 3 with fail
  generalize ((w.setCell ⟨xb, 5, none⟩ (.int .i64 p)).setCell ⟨xb, 6, none⟩ (.slice none 0 0)).setCell ⟨xb, 7, none⟩ (.int .i64 0) = w1 at *
  clear c5 f5 c6 f6 c7 f7
  obtain ⟨qs, hqs, h3⟩ := sat_PutsL.1 (SatL.pull h2 2 : SatL w1 (PutsL _ _ :: _))
  have hrec := fun (w' : World) (L' : List HP) (h : SatL w' (PutsR nv qs :: L')) => refrecord_of (seq := s.seq) hq hqs (show recLast s.seq s.N = (((1 + s.N.length : Nat) : Int), endB s.seq s.N) by unfold recLast; rw [if_pos hN]; rfl) hN (show recOut s.seq s.N = recRows s.seq s.N by unfold recOut; rw [if_pos hN]) (by omega) h
  obtain ⟨tb, htb⟩ : ∃ tb : Int, tb = ((1 + s.N.length : Nat) : Int) := ⟨_, rfl⟩
  rw [← htb] at hrec
  have hA := sat_drew.2 h3
  have hB := sat_drew.2 ((h3.alloc (.cells #[.int .i64 0, .slice none 0 0] 29)).swap)
  obtain ⟨na, nc, rfl, n1, n2⟩ := (PutsR.rdpts h3).1.valn
  have a0 : w1.drew.cell? ⟨xb, 1, none⟩ = some (.int .u64 s.seq) ∧ w1.drew.cell? ⟨xb, 4, none⟩ = some (.slice na qs.length nc) := ⟨SatL.cell (SatL.pull hA 1 : SatL _ (cl _ _ _ :: _)) (i := 1) rfl, SatL.cell (SatL.pull hA 1 : SatL _ (cl _ _ _ :: _)) (i := 4) rfl⟩
  have b0 : (w1.alloc (.cells #[.int .i64 0, .slice none 0 0] 29)).drew.cell? ⟨xb, 1, none⟩ = some (.int .u64 s.seq) ∧ (w1.alloc (.cells #[.int .i64 0, .slice none 0 0] 29)).drew.cell? ⟨xb, 4, none⟩ = some (.slice na qs.length nc) := ⟨SatL.cell (SatL.pull hB 2 : SatL _ (cl _ _ _ :: _)) (i := 1) rfl, SatL.cell (SatL.pull hB 2 : SatL _ (cl _ _ _ :: _)) (i := 4) rfl⟩
  have hqz : ((p : Nat) : Int) ≤ 8 := by omega
  have Hqs := hid hqs
  have HN := hid hN
  have Htb := hid htb
  have Hf := hid hf
  clear h2 h3 hqs hN htb hf
  go_cut [4, 5] from 22 to 34 (fun r4 r5 wr => ∃ (oa : Option Addr) (on oc eb : Nat) (ea : Option Addr) (en ec : Nat), r4 = .slice oa on oc ∧ r5 = .pointer (some ⟨eb, 0, none⟩) ∧ SatL wr (PutsL (.slice oa on oc) (recRows s.seq s.N) :: SlB 5 (.slice ea en ec) (endB s.seq s.N) :: cl eb 29 #[.int .i64 tb, .slice ea en ec] :: PutsR (.slice na qs.length nc) qs :: cl xb 77 (rentCells lv (.slice na qs.length nc) (.slice none 0 0) s p) :: PutsL lv s.L :: L))
  case first =>
    go_region_held (fun w' => w'.cell? ⟨xb, 1, none⟩ = some (.int .u64 s.seq) ∧ w'.cell? ⟨xb, 4, none⟩ = some (.slice na qs.length nc))
      (first | with_reducible exact a0 | with_reducible exact b0 | with_reducible exact m2 | with_reducible exact m2B | with_reducible exact m3 | with_reducible exact m4 | go_keep)
      (first
        | (go_at_call 14; first
            | ((with_reducible refine (hrec _ _ hA).mono ?_); rintro e w2 ⟨v2, rfl, ov, ea, en, ec, rfl, hC⟩; have m2 : w2.cell? ⟨xb, 1, none⟩ = some (.int .u64 s.seq) ∧ w2.cell? ⟨xb, 4, none⟩ = some (.slice na qs.length nc) := ⟨SatL.cell (SatL.pull hC 3 : SatL _ (cl _ _ _ :: _)) (i := 1) rfl, SatL.cell (SatL.pull hC 3 : SatL _ (cl _ _ _ :: _)) (i := 4) rfl⟩; have hE := hC.alloc (.cells #[.int .i64 0, .slice none 0 0] 29); have m3 : (w2.alloc (.cells #[.int .i64 0, .slice none 0 0] 29)).cell? ⟨xb, 1, none⟩ = some (.int .u64 s.seq) ∧ (w2.alloc (.cells #[.int .i64 0, .slice none 0 0] 29)).cell? ⟨xb, 4, none⟩ = some (.slice na qs.length nc) := ⟨SatL.cell (SatL.pull hE 4 : SatL _ (cl _ _ _ :: _)) (i := 1) rfl, SatL.cell (SatL.pull hE 4 : SatL _ (cl _ _ _ :: _)) (i := 4) rfl⟩; obtain ⟨oa, oc, rfl, o1, o2⟩ := PutsL.valn hC; have z0 := SatL.cell (hE : SatL _ (cl _ _ _ :: _)) (i := 0) rfl; have f0 := SatL.free (hE : SatL _ (cl _ _ _ :: _)) 0; have z1 := SatL.cell (hE : SatL _ (cl _ _ _ :: _)) (i := 1) rfl; have f1 := SatL.free (hE : SatL _ (cl _ _ _ :: _)) 1; have hG := hC.alloc (.cells #[.int .i64 tb, .slice ea en ec] 29); have m4 := (⟨SatL.cell (SatL.pull hG 4 : SatL _ (cl _ _ _ :: _)) (i := 1) (v := .int .u64 s.seq) rfl, SatL.cell (SatL.pull hG 4 : SatL _ (cl _ _ _ :: _)) (i := 4) (v := .slice na qs.length nc) rfl⟩ : _ ∧ _))
            | ((with_reducible refine (hrec _ _ hB).mono ?_); rintro e w2 ⟨v2, rfl, ov, ea, en, ec, rfl, hC⟩; have m2B : w2.cell? ⟨xb, 1, none⟩ = some (.int .u64 s.seq) ∧ w2.cell? ⟨xb, 4, none⟩ = some (.slice na qs.length nc) := ⟨SatL.cell (SatL.pull hC 4 : SatL _ (cl _ _ _ :: _)) (i := 1) rfl, SatL.cell (SatL.pull hC 4 : SatL _ (cl _ _ _ :: _)) (i := 4) rfl⟩; have hE := (SatL.pull hC 3 : SatL _ (cl _ _ _ :: _)); obtain ⟨oa, oc, rfl, o1, o2⟩ := PutsL.valn hC; have z0 := SatL.cell (hE : SatL _ (cl _ _ _ :: _)) (i := 0) rfl; have f0 := SatL.free (hE : SatL _ (cl _ _ _ :: _)) 0; have z1 := SatL.cell (hE : SatL _ (cl _ _ _ :: _)) (i := 1) rfl; have f1 := SatL.free (hE : SatL _ (cl _ _ _ :: _)) 1; have hG := put_chain (.int .i64 tb) (.slice ea en ec) hE; have m4 := (⟨SatL.cell (SatL.pull hG 4 : SatL _ (cl _ _ _ :: _)) (i := 1) (v := .int .u64 s.seq) rfl, SatL.cell (SatL.pull hG 4 : SatL _ (cl _ _ _ :: _)) (i := 4) (v := .slice na qs.length nc) rfl⟩ : _ ∧ _))))
    all_goals
      go_wp2
      go_meet
      exact ⟨_, _, _, _, _, _, _, rfl, rfl, SatL.tail (hG.bring [6, 1, 2, 0, 3, 4, 5])⟩
  case rest =>
    obtain ⟨oa, on, oc, eb, ea, en, ec, rfl, rfl, h5⟩ := hcut
    have hp := Hp.out
    subst hp
    obtain ⟨rs, hrs, h6⟩ := sat_PutsL.1 h5
    obtain ⟨hv, rt, rfl, hrt⟩ := rows_head hrs
    obtain ⟨ra, rc, hro, r1, r2⟩ := (PutsR.rdpts h6).1.valn
    cases hro
    obtain ⟨rb, ro, rfl, _⟩ := (PutsR.rdpts h6).1.at (by simp)
    have hrn : rt.length = s.N.length := by have := congrArg List.length hrt; rw [List.length_map] at this; rw [this]; simp [inRow]
    have hon : (({ b := 0, v := hv, d := headB s.seq s.N } : Pt) :: rt).length = rt.length + 1 := rfl
    rw [hon] at h6 r1
    have g6 := SlB.rd (SatL.pull h6 1 : SatL wc (SlB _ _ _ :: _))
    have g7 := g6.valn
    rw [show (endB s.seq s.N).length = 512 from endOf_len _ _] at g7
    obtain ⟨ea', ec', hee, i1, i2⟩ := g7
    cases hee
    have h7 := PutsR.rest1 h6
    have f0 : SatL wc (PutsR (.slice (some ⟨rb, ro + 2, none⟩) rt.length (oc - 1)) rt :: SlB 5 (.slice ea 512 ec) (endB s.seq s.N) :: cl eb 29 #[.int .i64 tb, .slice ea 512 ec] :: PutsR (.slice na qs.length nc) qs :: cl xb 77 (rentCells lv (.slice na qs.length nc) (.slice none 0 0) s 3) :: PutsL lv s.L :: L) := h7
    have hrl : rt.length ≤ 1000000 := by omega
    have Hrn := hid hrn
    have hN1 : s.N ≠ [] := by
      intro e
      have h9 := HN.out
      rw [e] at h9
      exact absurd h9 (by decide)
    have b4 : 0 < rt.length := by rw [hrn]; exact List.length_pos_iff.2 hN1
    have b5 : ¬ rt.length = 0 := by omega
    have b8 : ¬ oc = 1 := by omega
    have b9 : (1 : Int) ≤ (rt.length : Int) + 1 := by omega
    have CT := hid (fun (w' : World) (L' : List HP) (h : SatL w' (pt eb (.cells #[.int .i64 tb, .slice ea 512 ec] 29) :: L')) => (⟨SatL.cell h (i := 0) rfl, SatL.cell h (i := 1) rfl⟩ : w'.cell? ⟨eb, 0, none⟩ = some (.int .i64 tb) ∧ w'.cell? ⟨eb, 1, none⟩ = some (.slice ea 512 ec)))
    have c0 := CT.out _ _ (SatL.pull (sat_drew.2 f0) 2)
    have f1 := sat_drew.2 (emptyPuts' f0)
    have f2 := SatL.bring (sat_drew.2 ((emptyPuts' f0).allocN (n := wc.heap.size + 1) (.cells #[.int .i64 tb, .slice ea 512 ec] 29) (by simp))) [1, 2, 0, 3]
    have f3 := SatL.bring (sat_drew.2 (emptyPutsN' (n := wc.heap.size + 1) (by simp) (f0.allocN (n := wc.heap.size) (.cells #[.int .i64 tb, .slice ea 512 ec] 29) rfl))) [0, 2, 1, 3]
    have x1 := CT.out _ _ (SatL.pull f1 3)
    have x2 := CT.out _ _ (SatL.pull f2 4)
    have x3 := CT.out _ _ (SatL.pull f3 4)
    have x4 := CT.out _ _ (SatL.pull (sat_drew.2 (f0.alloc (.cells #[.int .i64 tb, .slice ea 512 ec] 29))) 3)
    clear h5 h6 h7 hrec hA hB a0 g6 hon hrs hrn hN1 f0
    have b1 : True := trivial
    go_upto_region 8 with fail
    go_cut [7] from 50 to 56 (fun r7 wr => SatL wr (PutsR r7 (rt ++ [⟨tb, .slice ea 512 ec, endB s.seq s.N⟩]) :: cl eb 29 #[.int .i64 tb, .slice ea 512 ec] :: PutsR (.slice na qs.length nc) qs :: cl xb 77 (rentCells lv (.slice na qs.length nc) (.slice none 0 0) s 3) :: PutsL lv s.L :: L))
    case first =>
      go_region_held3 (fun w' => w'.cell? ⟨eb, 0, none⟩ = some (.int .i64 tb) ∧ w'.cell? ⟨eb, 1, none⟩ = some (.slice ea 512 ec)) (first | (with_reducible exact c0) | (with_reducible exact m0) | (with_reducible exact x1) | (with_reducible exact x2) | (with_reducible exact x3) | (with_reducible exact x4) | (with_reducible exact x5) | go_keep) (first
        | (have _t := b1; refine step_copyPuts rfl (.tmp 50) (.tmp 52) rfl rfl rfl f1 hrl ?_; intro v7 w7 g1; clear b1; have m0 := CT.out _ _ (SatL.pull g1 2); have x5 := CT.out _ _ (SatL.pull (g1.alloc (.cells #[.int .i64 tb, .slice ea 512 ec] 29)) 3); have b2 : True := trivial)
        | (have _t := b1; refine step_copyPuts rfl (.tmp 50) (.tmp 52) rfl rfl rfl f2 hrl ?_; intro v7 w7 g1; clear b1; have m0 := CT.out _ _ (SatL.pull g1 3); have b3 : True := trivial)
        | (have _t := b1; refine step_copyPuts rfl (.tmp 50) (.tmp 52) rfl rfl rfl f3 hrl ?_; intro v7 w7 g1; clear b1; have m0 := CT.out _ _ (SatL.pull g1 3); have b3 : True := trivial)
        | (have _t := b2; refine step_onePut_new rfl rfl (.tmp 53) (.tmp 55) rfl rfl rfl rfl g1 hrl ?_; intro v9 w9 g2; clear b2; have m0 := CT.out _ _ (SatL.pull g2 1))
        | (have _t := b3; refine step_onePut_cl rfl (.tmp 53) (.tmp 55) rfl rfl rfl rfl g1 hrl ?_; intro v9 w9 g2; clear b3; have m0 := CT.out _ _ (SatL.pull g2 1))
        | fail "no")
      all_goals
        go_wp2_with fail
        go_meet
        exact g2
    case rest =>
      clear c0 f1 f2 f3 x1 x2 x3 x4 b1 b4 b5 b8 b9 CT r1 r2 i1 i2 hrl hp8 hqz n1 n2 Hp
      obtain ⟨ls, hls⟩ : ∃ ls, ls = rt ++ [(⟨tb, .slice ea 512 ec, endB s.seq s.N⟩ : Pt)] := ⟨_, rfl⟩
      rw [← hls] at hcut
      have hlp : pds ls = (recAll s.seq s.N).drop 1 := by rw [hls, pds_snoc, hrt, Htb.out]; rfl
      have hln : ls.length = s.N.length + 1 := by rw [hls, List.length_append, Hrn.out]; rfl
      have hlm : ∀ p ∈ ls, p.d.length = 512 ∧ 0 ≤ p.b ∧ p.b ≤ 65 := by
        intro p hp
        rw [hls] at hp
        rcases List.mem_append.1 hp with hp | hp
        · have h1 : (p.b, p.d) ∈ inRow 1 s.N := by rw [← hrt]; exact List.mem_map_of_mem hp
          obtain ⟨i, q, hq, he⟩ := inRow_mem h1
          injection he with e1 e2
          have hi := (List.getElem?_eq_some_iff.1 hq).1
          refine ⟨by rw [e2]; exact Hf.out.2.len q (List.mem_of_getElem? hq), by omega, by omega⟩
        · rw [List.mem_singleton.1 hp]
          have := Htb.out
          exact ⟨endOf_len _ _, by simp only; omega, by simp only; omega⟩
      have Hlp := hid hlp
      have Hlm := hid hlm
      have Hln := hid hln
      have hl66 : ls.length ≤ 65 := by omega
      have hl0 : 0 < ls.length := by omega
      obtain ⟨la, lc, rfl, l1, l2⟩ := (PutsR.rdpts hcut).1.valn
      obtain ⟨lb, lo, rfl, _⟩ := (PutsR.rdpts hcut).1.at hl0
      have hs0 : SatL wc (ReqsR (.slice none 0 0) [] :: cl xb 77 (rentCells lv (.slice na qs.length nc) (.slice none 0 0) s 3) :: PutsR (.slice (some ⟨lb, lo, none⟩) ls.length lc) ls :: PutsR (.slice na qs.length nc) qs :: PutsL lv s.L :: L) :=
        sat_ReqsR.2 (SlK_nil ((big_nil (f := fun r : Rp => SlB 5 r.v r.d)).2 (SatL.tail (hcut.bring [1, 3, 0]))))
      clear hcut hls hrt hlp hlm hln Hrn
      go_wp2
      go_loopw [8] (fun iv wr => ∃ (c x : Nat) (rv : Value) (rs : List Rp), x = 16 * c ∧ c ≤ (ls.length + 15) / 16 ∧ iv = .int .i64 x ∧ rqs rs = wreqs s.start (pds ls) c ∧ SatL wr (ReqsR rv rs :: cl xb 77 (rentCells lv (.slice na qs.length nc) rv s 3) :: PutsR (.slice (some ⟨lb, lo, none⟩) ls.length lc) ls :: PutsR (.slice na qs.length nc) qs :: PutsL lv s.L :: L)) (fun iv _ => ls.length - (intOf iv).toNat)
      case atStart => exact ⟨0, 0, _, [], by omega, by omega, rfl, rfl, hs0⟩
      case round =>
        clear hs0
        obtain ⟨c, x, rv, rs, hx, hc, rfl, hrs, hs⟩ := hrel
        obtain ⟨ra, rc, rfl, r1, r2⟩ := SlK.valn (sat_ReqsR.1 hs)
        by_cases hlt : x < ls.length
        · have hp : ls[x]? = some ls[x] := List.getElem?_eq_getElem hlt
          obtain ⟨hpd, hb0, hb1⟩ := Hlm.out _ (List.getElem_mem hlt)
          obtain ⟨mm, hmm⟩ : ∃ mm, mm = min 16 (ls.length - x) := ⟨_, rfl⟩
          have hrl : rs.length ≤ 1000000 := by
            have := congrArg List.length hrs
            rw [List.length_map] at this
            rw [this]; simp [wreqs]; omega
          have hxb : ls[x].b = 1 + (x : Int) := by
            have h1 : (recTail s.seq s.N)[x]? = some (ls[x].b, ls[x].d) := by
              have := pds_get hp
              rw [Hlp.out] at this; exact this
            have := recTail_at h1
            simp only at this; omega
          have hsn : rqs rs ++ [⟨1, s.start + 1 + x, 0, flatFrom ls x mm⟩] = wreqs s.start (pds ls) (c + 1) := by
            rw [wreqs_snoc, ← hx, wreq_of s.start hp hmm, hrs, hxb, show s.start + 1 + (x : Int) = s.start + (1 + (x : Int)) by omega]
          have Hsn := hid hsn
          have Hx := hid hx
          have Hmm := hid hmm
          have hmb : x + mm ≤ ls.length ∧ mm ≤ 16 := by omega
          have Hmb := hid hmb
          have hmc : (ls.length < x + 16 ∧ mm = ls.length - x) ∨ (x + 16 ≤ ls.length ∧ mm = 16) := by omega
          have Hmc := hid hmc
          have hxz : (x : Int) < ls.length := by omega
          have hx65 : (x : Int) ≤ 65 := by omega
          have hs2 := hs.alloc (.cells #[.int .i64 0, .int .i64 0, .int .i64 0, .slice none 0 0] 80)
          have k8 := SatL.cell (SatL.pull hs 1 : SatL _ (cl xb _ _ :: _)) (i := 0) (v := .int .i64 s.start) rfl
          have z0 := SatL.cell (hs2 : SatL _ (cl _ _ _ :: _)) (i := 0) (v := .int .i64 0) rfl
          have z1 := SatL.cell (hs2 : SatL _ (cl _ _ _ :: _)) (i := 1) (v := .int .i64 0) rfl
          have z2 := SatL.cell (hs2 : SatL _ (cl _ _ _ :: _)) (i := 2) (v := .int .i64 0) rfl
          have z3 := SatL.cell (hs2 : SatL _ (cl _ _ _ :: _)) (i := 3) (v := .slice none 0 0) rfl
          have f0 := SatL.free (hs2 : SatL _ (cl _ _ _ :: _)) 0
          have f1 := SatL.free (hs2 : SatL _ (cl _ _ _ :: _)) 1
          have f2 := SatL.free (hs2 : SatL _ (cl _ _ _ :: _)) 2
          have f3 := SatL.free (hs2 : SatL _ (cl _ _ _ :: _)) 3
          have hA := hs.alloc (.cells #[.int .i64 1, .int .i64 (s.start + 1 + x), .int .i64 0, .slice none 0 0] 80)
          have hB := (((((hs2 : SatL _ (cl _ _ _ :: _)).set (i := 0) (.int .i64 1)).set (i := 1) (.int .i64 (s.start + 1 + x))).set (i := 2) (.int .i64 0)).set (i := 3) (.slice none 0 0))
          obtain ⟨q1, q2⟩ := hst
          clear hp hsn hx hmm hmb hrs hs hmc hxb
          go_upto_region 12 with fail
          go_cut [9] from 57 to 102 (fun r9 wr => ∃ qb : Nat, r9 = .pointer (some ⟨qb, 0, none⟩) ∧ SatL wr (cl qb 80 #[.int .i64 1, .int .i64 (s.start + 1 + x), .int .i64 0, .slice none 0 0] :: ReqsR (.slice ra rs.length rc) rs :: cl xb 77 (rentCells lv (.slice na qs.length nc) (.slice ra rs.length rc) s 3) :: PutsR (.slice (some ⟨lb, lo, none⟩) ls.length lc) ls :: PutsR (.slice na qs.length nc) qs :: PutsL lv s.L :: L))
          case first =>
            go_wp2
            go_meet
            exact ⟨_, rfl, by first | exact hA | exact hB⟩
          case rest =>
            clear hs2 k8 z0 z1 z2 z3 f0 f1 f2 f3 hA hB hb0 hb1 hpd
            obtain ⟨qb, rfl, hs3⟩ := hcut
            have hs4 : SatL wc (cl qb 80 #[.int .i64 1, .int .i64 (s.start + 1 + x), .int .i64 0, .slice none 0 0] :: SlB 5 (.slice none 0 0) (flatFrom ls x 0) :: ReqsR (.slice ra rs.length rc) rs :: cl xb 77 (rentCells lv (.slice na qs.length nc) (.slice ra rs.length rc) s 3) :: PutsR (.slice (some ⟨lb, lo, none⟩) ls.length lc) ls :: PutsR (.slice na qs.length nc) qs :: PutsL lv s.L :: L) := (Sl_nil hs3).swap
            clear hs3
            go_wp2
            go_loopw [10] (fun kv wr => ∃ (k y : Nat) (dv : Value), k ≤ mm ∧ y = x + k ∧ kv = .int .i64 y ∧ SatL wr (cl qb 80 #[.int .i64 1, .int .i64 (s.start + 1 + x), .int .i64 0, dv] :: SlB 5 dv (flatFrom ls x k) :: ReqsR (.slice ra rs.length rc) rs :: cl xb 77 (rentCells lv (.slice na qs.length nc) (.slice ra rs.length rc) s 3) :: PutsR (.slice (some ⟨lb, lo, none⟩) ls.length lc) ls :: PutsR (.slice na qs.length nc) qs :: PutsL lv s.L :: L)) (fun kv _ => x + mm - (intOf kv).toNat)
            case atStart => exact ⟨0, x, _, by omega, rfl, rfl, hs4⟩
            case round =>
              clear hs4
              obtain ⟨k, y, dv, hk, hy, rfl, hs5⟩ := hrel
              obtain ⟨da, dc, rfl, d1, d2⟩ := SlB.valn (SatL.pull hs5 1 : SatL wr (SlB _ _ _ :: _))
              have hfl := flatFrom_len (fun p hp => (by have := (Hlm.out p hp).1; omega : p.d.length ≤ 512)) x k
              have hyl : y ≤ 81 := by have := Hmb.out; omega
              have hyz : (y : Int) ≤ 81 := by omega
              have Hy := hid hy
              clear hy
              go_upto_region 14 with fail
              go_cut [81] from 72 to 92 (fun v wx => v = .bool (decide (k < mm)) ∧ wx = wr)
              case first =>
                have hb := Hmb.out
                have hc := Hmc.out
                have hy := Hy.out
                by_cases hk2 : k < mm
                · have g1 : (y : Int) < ls.length := by omega
                  have g2 : (y : Int) < (x : Int) + 16 := by omega
                  have Hk2 := hid hk2
                  clear hb hc hy hk2 hs5 hfl d1 hk
                  go_wp2
                  go_meet
                  exact ⟨congrArg Value.bool (decide_eq_true Hk2.out).symm, rfl⟩
                · have Hk2 := hid hk2
                  by_cases g1 : (y : Int) < ls.length
                  · have g2 : ¬ (y : Int) < (x : Int) + 16 := by omega
                    clear hb hc hy hk2 hs5 hfl d1 hk
                    go_wp2
                    go_meet
                    exact ⟨congrArg Value.bool (decide_eq_false Hk2.out).symm, rfl⟩
                  · clear hb hc hy hk2 hs5 hfl d1 hk
                    go_wp2
                    go_meet
                    exact ⟨congrArg Value.bool (decide_eq_false Hk2.out).symm, rfl⟩
              case rest =>
                obtain ⟨rfl, rfl⟩ := hcut
                by_cases hkm : k < mm
                · have hxk : y < ls.length := by have := Hmb.out; have := Hy.out; omega
                  have hmm16 : mm ≤ 16 := Hmb.out.2
                  have hp : ls[y]? = some ls[y] := List.getElem?_eq_getElem hxk
                  have hpd := (Hlm.out _ (List.getElem_mem hxk)).1
                  obtain ⟨va, vc, hv, i1, i2⟩ := PutsR.ptsl (SatL.pull hs5 4 : SatL wc (PutsR _ _ :: _)) _ (List.getElem_mem hxk)
                  have hs6 := sat_drew.2 hs5
                  obtain ⟨k1, k2⟩ := PutsR.cell2 (SatL.pull hs6 4 : SatL _ (PutsR _ _ :: _)) hp
                  have hsx := hid (flatFrom_succ (i := x) (k := k) (by rw [← Hy.out]; exact hp))
                  have hsrc := SrcOk.ofRdB (PutsR.rdb (SatL.pull hs6 4 : SatL _ (PutsR _ _ :: _)) (List.getElem_mem hxk))
                  rw [hv, hpd] at k2 hsrc
                  generalize ls[y].b = kb at *
                  generalize ls[y].d = kd at *
                  have c3 := SatL.cell (hs6 : SatL _ (cl qb _ _ :: _)) (i := 3) (v := .slice da (flatFrom ls x k).length dc) rfl
                  have hs7 := (SatL.pull hs6 1 : SatL _ (SlB _ _ _ :: _))
                  generalize flatFrom ls x k = F at *
                  have l3 : ((bvs F).length + 512) * 1 ≤ 140737488355328 := by rw [bvs_len]; omega
                  have l4 : (bvs F).length + 512 ≤ maxLen := by unfold maxLen; omega
                  have hkz : (y : Int) < ls.length := by omega
                  have bt : decide (k < mm) = true := decide_eq_true hkm
                  rw [bt]
                  clear hp hv hs5 hs6 hfl k1 hyl
                  go_wp2
                  go_region_law (first
                    | (refine step_append_sl rfl (.tmp 85) (.tmp 90) rfl elem_byte rfl (Sl.toK hs7 rfl) rfl hsrc (bvs_one _) l3 l4 ?_; intro v5 w5 h8 _; have h9 := SlB.app (Sl.ofK h8); obtain ⟨fa, fc, hv5, _, _⟩ := SlB.valn h9; rw [List.length_append, hpd] at hv5; subst hv5; have c4 := SatL.cell (SatL.pull h9 1 : SatL w5 (cl qb _ _ :: _)) (i := 3) (v := .slice da F.length dc) rfl; have c5 := SatL.free (SatL.pull h9 1 : SatL w5 (cl qb _ _ :: _)) 3; have h10 := (SatL.pull h9 1 : SatL w5 (cl qb _ _ :: _)).set (i := 3) (.slice fa (F.length + 512) fc))
                    | fail "no")
                  all_goals
                    go_wp2
                    go_roundw
                    case rel => first | exact ⟨k + 1, y + 1, _, by omega, by have := Hy.out; omega, by go_num, by rw [hsx.out]; exact h10⟩ | ((repeat apply Exists.intro (α := Value)); exact ⟨⟨k + 1, y + 1, _, by omega, by have := Hy.out; omega, by go_num, by rw [hsx.out]; exact h10⟩, rfl⟩)
                    case measure => have := Hy.out; simp [intOf]; omega
                · obtain rfl : k = mm := by omega
                  have hs6 := sat_drew.2 hs5
                  have hs7 := sat_drew.2 (hs5.alloc (.cells #[.int .i64 1, .int .i64 (s.start + 1 + x), .int .i64 0, .slice da (flatFrom ls x k).length dc] 80))
                  have hs8 : SatL wc.drew (ReqsR (.slice ra rs.length rc) rs :: SlB 5 (.slice da (flatFrom ls x k).length dc) (flatFrom ls x k) :: cl qb 80 #[.int .i64 1, .int .i64 (s.start + 1 + x), .int .i64 0, .slice da (flatFrom ls x k).length dc] :: cl xb 77 (rentCells lv (.slice na qs.length nc) (.slice ra rs.length rc) s 3) :: PutsR (.slice (some ⟨lb, lo, none⟩) ls.length lc) ls :: PutsR (.slice na qs.length nc) qs :: PutsL lv s.L :: L) := hs6.bring [2, 1, 0]
                  generalize flatFrom ls x k = F at *
                  have g0 := SatL.cell (hs6 : SatL _ (cl qb _ _ :: _)) (i := 0) (v := .int .i64 1) rfl
                  have g1 := SatL.cell (hs6 : SatL _ (cl qb _ _ :: _)) (i := 1) (v := .int .i64 (s.start + 1 + x)) rfl
                  have g2 := SatL.cell (hs6 : SatL _ (cl qb _ _ :: _)) (i := 2) (v := .int .i64 0) rfl
                  have g3 := SatL.cell (hs6 : SatL _ (cl qb _ _ :: _)) (i := 3) (v := .slice da F.length dc) rfl
                  have g5 := SatL.cell (SatL.pull hs6 3 : SatL _ (cl xb _ _ :: _)) (i := 6) (v := .slice ra rs.length rc) rfl
                  have y5 := SatL.cell (SatL.pull hs7 4 : SatL _ (cl xb _ _ :: _)) (i := 6) (v := .slice ra rs.length rc) rfl
                  have bt : decide (k < k) = false := decide_eq_false hkm
                  rw [bt]
                  clear hs5 hs6 hs7 hfl hkm
                  go_upto_region 17 with fail
                  go_region_law (first
                    | (refine step_oneReq (w := wc.drew) (nb := wc.heap.size) rfl rfl (.tmp 97) (.tmp 99) rfl rfl rfl rfl hs8 hrl ?_; intro v9 w9 h10; obtain ⟨oa9, oc9, hv9, _, _⟩ := SlK.valn (sat_ReqsR.1 h10); rw [List.length_append, List.length_cons, List.length_nil, Nat.zero_add] at hv9; subst hv9; have m0 := SatL.cell (SatL.pull h10 2 : SatL w9 (cl xb _ _ :: _)) (i := 6) (v := .slice ra rs.length rc) rfl; have m1 := SatL.free (SatL.pull h10 2 : SatL w9 (cl xb _ _ :: _)) 6; have h11 := (SatL.pull h10 2 : SatL w9 (cl xb _ _ :: _)).set (i := 6) (.slice oa9 (rs.length + 1) oc9))
                    | fail "no")
                  all_goals
                    have h12 := SatL.tail (h11.bring [2, 1, 0])
                    go_wp2
                    go_roundw
                    case rel => first | exact ⟨c + 1, x + 16, _, _, by have := Hx.out; omega, by have := Hx.out; omega, by go_num, by rw [rqs_snoc]; exact Hsn.out, h12⟩ | ((repeat apply Exists.intro (α := Value)); exact ⟨⟨c + 1, x + 16, _, _, by have := Hx.out; omega, by have := Hx.out; omega, by go_num, by rw [rqs_snoc]; exact Hsn.out, h12⟩, rfl⟩)
                    case measure => simp [intOf]; omega
        · have hcc : c = (ls.length + 15) / 16 := by omega
          have e9 : rqs rs = reqsOf s 3 := by
            rw [hrs, hcc, Hlp.out, Hln.out]; rfl
          have h8 := sat_ReqsL.2 ⟨rs, e9, hs⟩
          have h9 := sat_PutsL.2 ⟨qs, Hqs.out, (SatL.pull h8 3 : SatL wr (PutsR _ _ :: _))⟩
          have hH := rent_fin Hf.out (SatL.tail (h9.bring [3, 2, 1, 4, 0]))
          have hxz : ¬ (x : Int) < ls.length := by omega
          clear hs h8 h9 e9 hrs hx
          go_wp2
          go_end0
          exact Ret.mk hH
end
end Go.Proofs.Ytjjnadlklfegcaa

namespace Go.Proofs.Ytjjnadlklfegcaa
set_option linter.unusedVariables false
set_option linter.unusedSimpArgs false
open Go.RowKit

section
variable {w : World} {L : List HP} {xb : Nat} {s : LogS}
/-- append([]byte{}, x...) in a drawn region -/
theorem step_appnew {ops : Array Oper} {o : Oper} {a : Act} {K : Act → World → Prop} {Q : Exit → Act → World → Prop} {X : Prop} {nb : Nat} {v : Value} {l : List UInt8} (hnb : nb = w.heap.size) (hgd : o.guard = none) (s x : Operand)
    (ho : o.op = .call { callee := .builtin .append, args := #[s, x], argTypes := #[27, 27] }) (hs : a.eval s = .slice (some ⟨nb, 0, none⟩) 0 0) (hy : a.eval x = v)
    (h : SatL w L) (g : RdB v l w) (hl : l.length ≤ 1000000000) (H : ∀ v' w', SatL w' (SlB 5 v' l :: L) → K (a.put o.dst v') w') :
    if Region.wanted o (yielded ops a.tmps) = true then Oper.wp Try.prog o a (w.alloc (.cells #[] 5)) K Q else X := by
  subst hnb
  have h4 : SatL (w.alloc (.cells #[] 5)) (SlK 5 1 (.slice (some ⟨w.heap.size, 0, none⟩) 0 0) 0 [] :: L) :=
    sat_SlK.2 (.inr ⟨w.heap.size, 0, 0, #[], ⟨rfl, Nat.le_refl _, by decide, rfl, by simp, rfl⟩, h.alloc _⟩)
  refine step_append_sl hgd s x ho elem_byte hs h4 hy (SrcOk.ofRdB (RdB.alloc g _)) (bvs_one l) (by omega) (by unfold maxLen; omega) ?_
  intro v' w' h8 _
  exact H v' w' (by simpa using Sl.ofK h8)
set_option maxRecDepth 100000 in
set_option maxHeartbeats 8000000 in
theorem refenter7_ok {p : Nat} (hp : p = 7) (hq : s.seq < 18446744073709551616) (hst : 0 ≤ s.start ∧ s.start ≤ 4611686018427387904) (hN : recErr s.N = 0) (h : SatL w (RefR xb s :: L)) :
    Calls Try.prog 76 #[.pointer (some ⟨xb, 0, none⟩), .int .i64 p] w (Ret fun r w' => SatL w' (RefR xb (s.enter p) :: L)) := by
  have Hp := hid hp
  have hp8 : p ≤ 8 := by omega
  clear hp
  obtain ⟨lv, nv, rv, hf, h1⟩ := sat_RefR.1 h
  have hNl := hf.2.1
  have h2 := ((h1.set (i := 5) (.int .i64 p)).set (i := 6) (.slice none 0 0)).set (i := 7) (.int .i64 0)
  have c5 : w.cell? ⟨xb, 5, none⟩ = some (.int .i64 s.phase) := h1.cell (i := 5) rfl
  have f5 := h1.free 5
  have c6 : w.cell? ⟨xb, 6, none⟩ = some rv := h1.cell (i := 6) rfl
  have f6 := h1.free 6
  have c7 : w.cell? ⟨xb, 7, none⟩ = some (.int .i64 ((s.told : Int) - s.don)) := h1.cell (i := 7) rfl
  have f7 := h1.free 7
  have e2 : ((((refCells lv nv rv s).setIfInBounds 5 (.int .i64 p)).setIfInBounds 6 (.slice none 0 0)).setIfInBounds 7 (.int .i64 0)) = rentCells lv nv (.slice none 0 0) s p := rfl
  rw [e2] at h2
  clear h h1 e2
  go_enter Try.func76, Try.ntmps76
  go_upto_region 3 with fail
  generalize ((w.setCell ⟨xb, 5, none⟩ (.int .i64 p)).setCell ⟨xb, 6, none⟩ (.slice none 0 0)).setCell ⟨xb, 7, none⟩ (.int .i64 0) = w1 at *
  clear c5 f5 c6 f6 c7 f7
  obtain ⟨qs, hqs, h3⟩ := sat_PutsL.1 (SatL.pull h2 2 : SatL w1 (PutsL _ _ :: _))
  have hrec := fun (w' : World) (L' : List HP) (h : SatL w' (PutsR nv qs :: L')) => refrecord_of (seq := s.seq) hq hqs (show recLast s.seq s.N = (((1 + s.N.length : Nat) : Int), endB s.seq s.N) by unfold recLast; rw [if_pos hN]; rfl) hN (show recOut s.seq s.N = recRows s.seq s.N by unfold recOut; rw [if_pos hN]) (by omega) h
  obtain ⟨tb, htb⟩ : ∃ tb : Int, tb = ((1 + s.N.length : Nat) : Int) := ⟨_, rfl⟩
  rw [← htb] at hrec
  have hA := sat_drew.2 h3
  have hB := sat_drew.2 ((h3.alloc (.cells #[.int .i64 0, .slice none 0 0] 29)).swap)
  obtain ⟨na, nc, rfl, n1, n2⟩ := (PutsR.rdpts h3).1.valn
  have a0 : w1.drew.cell? ⟨xb, 1, none⟩ = some (.int .u64 s.seq) ∧ w1.drew.cell? ⟨xb, 4, none⟩ = some (.slice na qs.length nc) := ⟨SatL.cell (SatL.pull hA 1 : SatL _ (cl _ _ _ :: _)) (i := 1) rfl, SatL.cell (SatL.pull hA 1 : SatL _ (cl _ _ _ :: _)) (i := 4) rfl⟩
  have b0 : (w1.alloc (.cells #[.int .i64 0, .slice none 0 0] 29)).drew.cell? ⟨xb, 1, none⟩ = some (.int .u64 s.seq) ∧ (w1.alloc (.cells #[.int .i64 0, .slice none 0 0] 29)).drew.cell? ⟨xb, 4, none⟩ = some (.slice na qs.length nc) := ⟨SatL.cell (SatL.pull hB 2 : SatL _ (cl _ _ _ :: _)) (i := 1) rfl, SatL.cell (SatL.pull hB 2 : SatL _ (cl _ _ _ :: _)) (i := 4) rfl⟩
  have hqz : ((p : Nat) : Int) ≤ 8 := by omega
  have Hqs := hid hqs
  have HN := hid hN
  have Htb := hid htb
  have Hf := hid hf
  clear h2 h3 hqs hN htb hf
  go_cut [4, 5] from 22 to 34 (fun r4 r5 wr => ∃ (oa : Option Addr) (on oc eb : Nat) (ea : Option Addr) (en ec : Nat), r4 = .slice oa on oc ∧ r5 = .pointer (some ⟨eb, 0, none⟩) ∧ SatL wr (PutsL (.slice oa on oc) (recRows s.seq s.N) :: SlB 5 (.slice ea en ec) (endB s.seq s.N) :: cl eb 29 #[.int .i64 tb, .slice ea en ec] :: PutsR (.slice na qs.length nc) qs :: cl xb 77 (rentCells lv (.slice na qs.length nc) (.slice none 0 0) s p) :: PutsL lv s.L :: L))
  case first =>
    go_region_held (fun w' => w'.cell? ⟨xb, 1, none⟩ = some (.int .u64 s.seq) ∧ w'.cell? ⟨xb, 4, none⟩ = some (.slice na qs.length nc))
      (first | with_reducible exact a0 | with_reducible exact b0 | with_reducible exact m2 | with_reducible exact m2B | with_reducible exact m3 | with_reducible exact m4 | go_keep)
      (first
        | (go_at_call 14; first
            | ((with_reducible refine (hrec _ _ hA).mono ?_); rintro e w2 ⟨v2, rfl, ov, ea, en, ec, rfl, hC⟩; have m2 : w2.cell? ⟨xb, 1, none⟩ = some (.int .u64 s.seq) ∧ w2.cell? ⟨xb, 4, none⟩ = some (.slice na qs.length nc) := ⟨SatL.cell (SatL.pull hC 3 : SatL _ (cl _ _ _ :: _)) (i := 1) rfl, SatL.cell (SatL.pull hC 3 : SatL _ (cl _ _ _ :: _)) (i := 4) rfl⟩; have hE := hC.alloc (.cells #[.int .i64 0, .slice none 0 0] 29); have m3 : (w2.alloc (.cells #[.int .i64 0, .slice none 0 0] 29)).cell? ⟨xb, 1, none⟩ = some (.int .u64 s.seq) ∧ (w2.alloc (.cells #[.int .i64 0, .slice none 0 0] 29)).cell? ⟨xb, 4, none⟩ = some (.slice na qs.length nc) := ⟨SatL.cell (SatL.pull hE 4 : SatL _ (cl _ _ _ :: _)) (i := 1) rfl, SatL.cell (SatL.pull hE 4 : SatL _ (cl _ _ _ :: _)) (i := 4) rfl⟩; obtain ⟨oa, oc, rfl, o1, o2⟩ := PutsL.valn hC; have z0 := SatL.cell (hE : SatL _ (cl _ _ _ :: _)) (i := 0) rfl; have f0 := SatL.free (hE : SatL _ (cl _ _ _ :: _)) 0; have z1 := SatL.cell (hE : SatL _ (cl _ _ _ :: _)) (i := 1) rfl; have f1 := SatL.free (hE : SatL _ (cl _ _ _ :: _)) 1; have hG := hC.alloc (.cells #[.int .i64 tb, .slice ea en ec] 29); have m4 := (⟨SatL.cell (SatL.pull hG 4 : SatL _ (cl _ _ _ :: _)) (i := 1) (v := .int .u64 s.seq) rfl, SatL.cell (SatL.pull hG 4 : SatL _ (cl _ _ _ :: _)) (i := 4) (v := .slice na qs.length nc) rfl⟩ : _ ∧ _))
            | ((with_reducible refine (hrec _ _ hB).mono ?_); rintro e w2 ⟨v2, rfl, ov, ea, en, ec, rfl, hC⟩; have m2B : w2.cell? ⟨xb, 1, none⟩ = some (.int .u64 s.seq) ∧ w2.cell? ⟨xb, 4, none⟩ = some (.slice na qs.length nc) := ⟨SatL.cell (SatL.pull hC 4 : SatL _ (cl _ _ _ :: _)) (i := 1) rfl, SatL.cell (SatL.pull hC 4 : SatL _ (cl _ _ _ :: _)) (i := 4) rfl⟩; have hE := (SatL.pull hC 3 : SatL _ (cl _ _ _ :: _)); obtain ⟨oa, oc, rfl, o1, o2⟩ := PutsL.valn hC; have z0 := SatL.cell (hE : SatL _ (cl _ _ _ :: _)) (i := 0) rfl; have f0 := SatL.free (hE : SatL _ (cl _ _ _ :: _)) 0; have z1 := SatL.cell (hE : SatL _ (cl _ _ _ :: _)) (i := 1) rfl; have f1 := SatL.free (hE : SatL _ (cl _ _ _ :: _)) 1; have hG := put_chain (.int .i64 tb) (.slice ea en ec) hE; have m4 := (⟨SatL.cell (SatL.pull hG 4 : SatL _ (cl _ _ _ :: _)) (i := 1) (v := .int .u64 s.seq) rfl, SatL.cell (SatL.pull hG 4 : SatL _ (cl _ _ _ :: _)) (i := 4) (v := .slice na qs.length nc) rfl⟩ : _ ∧ _))))
    all_goals
      go_wp2
      go_meet
      exact ⟨_, _, _, _, _, _, _, rfl, rfl, SatL.tail (hG.bring [6, 1, 2, 0, 3, 4, 5])⟩
  case rest =>
    obtain ⟨oa, on, oc, eb, ea, en, ec, rfl, rfl, h5⟩ := hcut
    have hp := Hp.out
    subst hp
    have hql : qs.length = s.N.length := by have := congrArg List.length Hqs.out; rwa [List.length_map] at this
    have hqn : qs.length ≤ 64 := by omega
    have h6 : SatL wc (ReqsR (.slice none 0 0) [] :: cl xb 77 (rentCells lv (.slice na qs.length nc) (.slice none 0 0) s 7) :: PutsR (.slice na qs.length nc) qs :: PutsL lv s.L :: L) :=
      sat_ReqsR.2 (SlK_nil ((big_nil (f := fun r : Rp => SlB 5 r.v r.d)).2 (SatL.tail (SatL.tail (SatL.tail (h5.bring [0, 1, 2, 4, 3]))))))
    clear h5 hrec hA hB a0 b0 hql
    go_wp2
    go_loopw [11] (fun i wr => ∃ (k : Nat) (rv : Value) (rs : List Rp), k ≤ qs.length ∧ i = .int .i64 k ∧ rqs rs = (qs.take k).map (fun q => ⟨1, q.b, 0, q.d⟩) ∧ SatL wr (ReqsR rv rs :: cl xb 77 (rentCells lv (.slice na qs.length nc) rv s 7) :: PutsR (.slice na qs.length nc) qs :: PutsL lv s.L :: L)) (fun i _ => qs.length - (intOf i).toNat)
    case atStart => exact ⟨0, _, [], by omega, rfl, rfl, h6⟩
    case round =>
      clear h6
      obtain ⟨k, rv, rs, hk, rfl, hrs, hs⟩ := hrel
      have Hrs := hid hrs
      obtain ⟨ra, rc, rfl, r1, r2⟩ := SlK.valn (sat_ReqsR.1 hs)
      have n4 := SatL.cell (SatL.pull hs 1 : SatL _ (cl xb _ _ :: _)) (i := 4) (v := .slice na qs.length nc) rfl
      by_cases hlt : k < qs.length
      · have hp : qs[k]? = some qs[k] := List.getElem?_eq_getElem hlt
        obtain ⟨b, bo, rfl, _⟩ := (PutsR.rdpts (SatL.pull hs 2 : SatL wr (PutsR _ _ :: _))).1.at (by omega)
        obtain ⟨va, vc, hv, i1, i2⟩ := PutsR.ptsl (SatL.pull hs 2 : SatL wr (PutsR _ _ :: _)) _ (List.getElem_mem hlt)
        have hd5 : qs[k].d.length ≤ 1000000000 := by
          have := Hf.out.2.len (qs[k].b, qs[k].d) (by rw [← Hqs.out]; exact List.mem_map_of_mem (List.getElem_mem hlt))
          simp only at this; omega
        have hrl : rs.length ≤ 1000000 := by
          have := congrArg List.length hrs
          rw [List.length_map, List.length_map, List.length_take] at this; omega
        have hsn : rqs rs ++ [⟨1, qs[k].b, 0, qs[k].d⟩] = (qs.take (k + 1)).map (fun q => (⟨1, q.b, 0, q.d⟩ : Rq)) := by rw [List.take_add_one, hp, List.map_append, hrs]; rfl
        have Hsn := hid hsn
        have hs1 := sat_drew.2 hs
        have hrd := PutsR.rdb (SatL.pull hs1 2 : SatL _ (PutsR _ _ :: _)) (List.getElem_mem hlt)
        have cells : ∀ (w' : World) (L' : List HP), SatL w' (ReqsR (.slice ra rs.length rc) rs :: cl xb 77 (rentCells lv (.slice (some ⟨b, bo, none⟩) qs.length nc) (.slice ra rs.length rc) s 7) :: PutsR (.slice (some ⟨b, bo, none⟩) qs.length nc) qs :: L') →
            w'.cell? ⟨xb, 6, none⟩ = some (.slice ra rs.length rc) ∧ w'.cell? ⟨xb, 4, none⟩ = some (.slice (some ⟨b, bo, none⟩) qs.length nc) ∧ w'.cell? ⟨b, bo + k * 2, none⟩ = some (.int .i64 qs[k].b) ∧ w'.cell? ⟨b, bo + k * 2 + 1, none⟩ = some (.slice va qs[k].d.length vc) := by
          intro w' L' h
          obtain ⟨k1, k2⟩ := PutsR.cell2 (SatL.pull h 2 : SatL w' (PutsR _ _ :: _)) hp
          rw [hv] at k2
          exact ⟨SatL.cell (SatL.pull h 1 : SatL _ (cl xb _ _ :: _)) (i := 6) rfl, SatL.cell (SatL.pull h 1 : SatL _ (cl xb _ _ :: _)) (i := 4) rfl, k1, k2⟩
        have Hd := hid (show ∀ (w' : World) (L' : List HP), SatL w' (PutsR (.slice (some ⟨b, bo, none⟩) qs.length nc) qs :: L') → w'.cell? ⟨b, bo + k * 2, none⟩ = some (.int .i64 qs[k].b) ∧ w'.cell? ⟨b, bo + k * 2 + 1, none⟩ = some (.slice va qs[k].d.length vc) from fun w' L' h => by
          obtain ⟨k1, k2⟩ := PutsR.cell2 h hp
          rw [hv] at k2
          exact ⟨k1, k2⟩)
        rw [hv] at hrd
        have S0 := cells _ _ hs1
        have hs2 := sat_drew.2 ((hs.alloc (.cells #[] 5)).bring [1, 2, 3])
        have S1 := cells _ _ hs2
        have Hc := hid cells
        generalize qs[k].b = qb at *
        generalize qs[k].d = qd at *
        have hkz : (k : Int) < qs.length := by omega
        clear hp hv hsn hrs hs cells hs2
        go_wp2
        refine GoE.start (fun w' => w'.cell? ⟨xb, 6, none⟩ = some (.slice ra rs.length rc) ∧ w'.cell? ⟨xb, 4, none⟩ = some (.slice (some ⟨b, bo, none⟩) qs.length nc) ∧ w'.cell? ⟨b, bo + k * 2, none⟩ = some (.int .i64 qb) ∧ w'.cell? ⟨b, bo + k * 2 + 1, none⟩ = some (.slice va qd.length vc)) 28 29 rfl (by kernel_rfl) ?_
        refine GoE.take (i := 0) (v := ?_) rfl (by decide) (by kernel_rfl) (by kernel_rfl) (by kernel_rfl) (by kernel_rfl) (fun _ _ _ h => h) (by rfl) ?_ (by assumption) ?_
        rotate_left
        · intro w hSw; (try dsimp only at hSw); go_simp; try (with_reducible rfl)
        try simp only [Act.put, List.setIfInBounds_toArray, List.set_cons_zero, List.set_cons_succ]
        refine GoE.take (i := 1) (v := ?_) rfl (by decide) (by kernel_rfl) (by kernel_rfl) (by kernel_rfl) (by kernel_rfl) (fun _ _ _ h => h) (by rfl) ?_ (by assumption) ?_
        rotate_left
        · intro w hSw; (try dsimp only at hSw); go_simp; try (with_reducible rfl)
        try simp only [Act.put, List.setIfInBounds_toArray, List.set_cons_zero, List.set_cons_succ]
        refine GoE.take (i := 2) (v := ?_) rfl (by decide) (by kernel_rfl) (by kernel_rfl) (by kernel_rfl) (by kernel_rfl) (fun _ _ _ h => h) (by rfl) ?_ (by assumption) ?_
        rotate_left
        · intro w hSw; (try dsimp only at hSw); go_simp; try (with_reducible rfl)
        try simp only [Act.put, List.setIfInBounds_toArray, List.set_cons_zero, List.set_cons_succ]
        refine GoE.take (i := 3) (v := ?_) rfl (by decide) (by kernel_rfl) (by kernel_rfl) (by kernel_rfl) (by kernel_rfl) (fun _ _ _ h => h) (by rfl) ?_ (by assumption) ?_
        rotate_left
        · intro w hSw; (try dsimp only at hSw); go_simp; try (with_reducible rfl)
        try simp only [Act.put, List.setIfInBounds_toArray, List.set_cons_zero, List.set_cons_succ]
        refine GoE.take (i := 4) (v := ?_) rfl (by decide) (by kernel_rfl) (by kernel_rfl) (by kernel_rfl) (by kernel_rfl) (fun _ _ _ h => h) (by rfl) ?_ (by assumption) ?_
        rotate_left
        · intro w hSw; (try dsimp only at hSw); go_simp; try (with_reducible rfl)
        try simp only [Act.put, List.setIfInBounds_toArray, List.set_cons_zero, List.set_cons_succ]
        refine GoE.take (i := 5) (v := ?_) rfl (by decide) (by kernel_rfl) (by kernel_rfl) (by kernel_rfl) (by kernel_rfl) (fun _ _ _ h => h) (by rfl) ?_ (by assumption) ?_
        rotate_left
        · intro w hSw; (try dsimp only at hSw); go_simp; try (with_reducible rfl)
        try simp only [Act.put, List.setIfInBounds_toArray, List.set_cons_zero, List.set_cons_succ]
        refine GoE.take (i := 6) (v := ?_) rfl (by decide) (by kernel_rfl) (by kernel_rfl) (by kernel_rfl) (by kernel_rfl) (fun _ _ _ h => h) (by rfl) ?_ (by assumption) ?_
        rotate_left
        · intro w hSw; (try dsimp only at hSw); go_simp; try (with_reducible rfl)
        try simp only [Act.put, List.setIfInBounds_toArray, List.set_cons_zero, List.set_cons_succ]
        refine GoE.take (i := 7) (v := ?_) rfl (by decide) (by kernel_rfl) (by kernel_rfl) (by kernel_rfl) (by kernel_rfl) (fun _ _ _ h => h) (by rfl) ?_ (by assumption) ?_
        rotate_left
        · intro w hSw; (try dsimp only at hSw); go_simp; try (with_reducible rfl)
        try simp only [Act.put, List.setIfInBounds_toArray, List.set_cons_zero, List.set_cons_succ]
        refine GoE.take (i := 8) (v := ?_) rfl (by decide) (by kernel_rfl) (by kernel_rfl) (by kernel_rfl) (by kernel_rfl) (fun _ _ _ h => h) (by rfl) ?_ (by assumption) ?_
        rotate_left
        · intro w hSw; (try dsimp only at hSw); go_simp; try (with_reducible rfl)
        try simp only [Act.put, List.setIfInBounds_toArray, List.set_cons_zero, List.set_cons_succ]
        refine GoE.take (i := 9) (v := ?_) rfl (by decide) (by kernel_rfl) (by kernel_rfl) (by kernel_rfl) (by kernel_rfl) (fun _ _ _ h => h) (by rfl) ?_ (by assumption) ?_
        rotate_left
        · intro w hSw; (try dsimp only at hSw); go_simp; try (with_reducible rfl)
        try simp only [Act.put, List.setIfInBounds_toArray, List.set_cons_zero, List.set_cons_succ]
        refine GoE.take (i := 10) (v := ?_) rfl (by decide) (by kernel_rfl) (by kernel_rfl) (by kernel_rfl) (by kernel_rfl) (fun _ _ _ h => h) (by rfl) ?_ (by assumption) ?_
        rotate_left
        · intro w hSw; (try dsimp only at hSw); go_simp; try (with_reducible rfl)
        try simp only [Act.put, List.setIfInBounds_toArray, List.set_cons_zero, List.set_cons_succ]
        refine GoE.take (i := 11) (v := ?_) rfl (by decide) (by kernel_rfl) (by kernel_rfl) (by kernel_rfl) (by kernel_rfl) (fun _ _ _ h => h) (by rfl) ?_ (by assumption) ?_
        rotate_left
        · intro w hSw; (try dsimp only at hSw); go_simp; try (with_reducible rfl)
        try simp only [Act.put, List.setIfInBounds_toArray, List.set_cons_zero, List.set_cons_succ]
        refine GoE.take (i := 12) (v := ?_) rfl (by decide) (by kernel_rfl) (by kernel_rfl) (by kernel_rfl) (by kernel_rfl) (fun _ _ _ h => h) (by rfl) ?_ (by assumption) ?_
        rotate_left
        · intro w hSw; (try dsimp only at hSw); go_simp; try (with_reducible rfl)
        try simp only [Act.put, List.setIfInBounds_toArray, List.set_cons_zero, List.set_cons_succ]
        refine GoE.take (i := 14) (v := ?_) rfl (by decide) (by kernel_rfl) (by kernel_rfl) (by kernel_rfl) (by kernel_rfl) (fun _ _ _ h => h) (by rfl) ?_ (by assumption) ?_
        rotate_left
        · intro w hSw; (try dsimp only at hSw); go_simp; try (with_reducible rfl)
        try simp only [Act.put, List.setIfInBounds_toArray, List.set_cons_zero, List.set_cons_succ]
        refine GoE.take (i := 15) (v := ?_) rfl (by decide) (by kernel_rfl) (by kernel_rfl) (by kernel_rfl) (by kernel_rfl) (fun _ _ _ h => h) (by rfl) ?_ (by assumption) ?_
        rotate_left
        · intro w hSw; (try dsimp only at hSw); go_simp; try (with_reducible rfl)
        try simp only [Act.put, List.setIfInBounds_toArray, List.set_cons_zero, List.set_cons_succ]
        refine GoE.take (i := 16) (v := ?_) rfl (by decide) (by kernel_rfl) (by kernel_rfl) (by kernel_rfl) (by kernel_rfl) (fun _ _ _ h => h) (by rfl) ?_ (by assumption) ?_
        rotate_left
        · intro w hSw; (try dsimp only at hSw); go_simp; try (with_reducible rfl)
        try simp only [Act.put, List.setIfInBounds_toArray, List.set_cons_zero, List.set_cons_succ]
        refine GoE.take (i := 17) (v := ?_) rfl (by decide) (by kernel_rfl) (by kernel_rfl) (by kernel_rfl) (by kernel_rfl) (fun _ _ _ h => h) (by rfl) ?_ (by assumption) ?_
        rotate_left
        · intro w hSw; (try dsimp only at hSw); go_simp; try (with_reducible rfl)
        try simp only [Act.put, List.setIfInBounds_toArray, List.set_cons_zero, List.set_cons_succ]
        refine GoE.take (i := 18) (v := ?_) rfl (by decide) (by kernel_rfl) (by kernel_rfl) (by kernel_rfl) (by kernel_rfl) (fun _ _ _ h => h) (by rfl) ?_ (by assumption) ?_
        rotate_left
        · intro w hSw; (try dsimp only at hSw); go_simp; try (with_reducible rfl)
        try simp only [Act.put, List.setIfInBounds_toArray, List.set_cons_zero, List.set_cons_succ]
        refine GoE.take (i := 19) (v := ?_) rfl (by decide) (by kernel_rfl) (by kernel_rfl) (by kernel_rfl) (by kernel_rfl) (fun _ _ _ h => h) (by rfl) ?_ (by assumption) ?_
        rotate_left
        · intro w hSw; (try dsimp only at hSw); go_simp; try (with_reducible rfl)
        try simp only [Act.put, List.setIfInBounds_toArray, List.set_cons_zero, List.set_cons_succ]
        refine GoE.take (i := 20) (v := ?_) rfl (by decide) (by kernel_rfl) (by kernel_rfl) (by kernel_rfl) (by kernel_rfl) (fun _ _ _ h => h) (by rfl) ?_ (by assumption) ?_
        rotate_left
        · intro w hSw; (try dsimp only at hSw); go_simp; try (with_reducible rfl)
        try simp only [Act.put, List.setIfInBounds_toArray, List.set_cons_zero, List.set_cons_succ]
        refine GoE.take (i := 21) (v := ?_) rfl (by decide) (by kernel_rfl) (by kernel_rfl) (by kernel_rfl) (by kernel_rfl) (fun _ _ _ h => h) (by rfl) ?_ (by assumption) ?_
        rotate_left
        · intro w hSw; (try dsimp only at hSw); go_simp; try (with_reducible rfl)
        try simp only [Act.put, List.setIfInBounds_toArray, List.set_cons_zero, List.set_cons_succ]
        refine GoE.one (i := 13) rfl (by kernel_rfl) (fun K hK => ?_)
        go_simp
        refine hK.out _ _ (fun _ => S1) ?_
        clear hK K
        try simp only [Act.put, List.setIfInBounds_toArray, List.set_cons_zero, List.set_cons_succ]
        refine GoE.one (i := 22) rfl (by kernel_rfl) (fun K hK => ?_)
        refine step_appnew (w := wr.drew) (nb := wr.drew.heap.size) rfl rfl (.tmp 152) (.tmp 160) rfl rfl rfl hs1 hrd hd5 ?_
        intro v2 w2 h7
        obtain ⟨da, dc, rfl, _, _⟩ := SlB.valn h7
        have S2 := Hc.out _ _ (h7.bring [1, 2, 3])
        have h8 := h7.alloc (.cells #[.int .i64 1, .int .i64 qb, .int .i64 0, .slice da qd.length dc] 80)
        have S3 := Hc.out _ _ (h8.bring [2, 3, 4])
        have h9 : SatL w2 (ReqsR (.slice ra rs.length rc) rs :: SlB 5 (.slice da qd.length dc) qd :: _) := SatL.swap h7
        clear h8
        refine hK.out _ _ (fun _ => S2) ?_
        clear hK K
        try simp only [Act.put, List.setIfInBounds_toArray, List.set_cons_zero, List.set_cons_succ]
        refine GoE.take (i := 23) (v := ?_) rfl (by decide) (by kernel_rfl) (by kernel_rfl) (by kernel_rfl) (by kernel_rfl) (fun _ _ _ h => h) (by rfl) ?_ (by assumption) ?_
        rotate_left
        · intro w hSw; (try dsimp only at hSw); go_simp; try (with_reducible rfl)
        try simp only [Act.put, List.setIfInBounds_toArray, List.set_cons_zero, List.set_cons_succ]
        refine GoE.one (i := 24) rfl (by kernel_rfl) (fun K hK => ?_)
        go_simp
        refine hK.out _ _ (fun _ => S3) ?_
        clear hK K
        try simp only [Act.put, List.setIfInBounds_toArray, List.set_cons_zero, List.set_cons_succ]
        refine GoE.one (i := 25) rfl (by kernel_rfl) (fun K hK => ?_)
        refine step_oneReq (w := w2) (nb := w2.heap.size) rfl rfl (.tmp 143) (.tmp 163) rfl rfl rfl rfl h9 hrl ?_
        intro v9 w9 h10
        obtain ⟨oa9, oc9, hv9, _, _⟩ := SlK.valn (sat_ReqsR.1 h10)
        rw [List.length_append, List.length_cons, List.length_nil, Nat.zero_add] at hv9
        subst hv9
        have m0 := SatL.cell (SatL.pull h10 1 : SatL w9 (cl xb _ _ :: _)) (i := 6) (v := .slice ra rs.length rc) rfl
        have m1 := SatL.free (SatL.pull h10 1 : SatL w9 (cl xb _ _ :: _)) 6
        have m4 := SatL.cell (SatL.pull h10 1 : SatL w9 (cl xb _ _ :: _)) (i := 4) (v := .slice (some ⟨b, bo, none⟩) qs.length nc) rfl
        have S4 := And.intro m0 (And.intro m4 (Hd.out _ _ (SatL.pull h10 2)))
        have h11 := (SatL.pull h10 1 : SatL w9 (cl xb _ _ :: _)).set (i := 6) (.slice oa9 (rs.length + 1) oc9)
        refine hK.out _ _ (fun _ => S4) ?_
        clear hK K
        try simp only [Act.put, List.setIfInBounds_toArray, List.set_cons_zero, List.set_cons_succ]
        refine GoE.take (i := 26) (v := ?_) rfl (by decide) (by kernel_rfl) (by kernel_rfl) (by kernel_rfl) (by kernel_rfl) (fun _ _ _ h => h) (by rfl) ?_ (by assumption) ?_
        rotate_left
        · intro w hSw; (try dsimp only at hSw); go_simp; try (with_reducible rfl)
        try simp only [Act.put, List.setIfInBounds_toArray, List.set_cons_zero, List.set_cons_succ]
        refine GoE.take (i := 27) (v := ?_) rfl (by decide) (by kernel_rfl) (by kernel_rfl) (by kernel_rfl) (by kernel_rfl) (fun _ _ _ h => h) (by rfl) ?_ (by assumption) ?_
        rotate_left
        · intro w hSw; (try dsimp only at hSw); go_simp; try (with_reducible rfl)
        try simp only [Act.put, List.setIfInBounds_toArray, List.set_cons_zero, List.set_cons_succ]
        refine GoE.one (i := 28) rfl (by kernel_rfl) (fun K hK => ?_)
        go_simp
        refine hK.out _ _ (fun h => absurd rfl h) ?_
        clear hK K
        try simp only [Act.put, List.setIfInBounds_toArray, List.set_cons_zero, List.set_cons_succ]
        refine GoE.done (by kernel_rfl) ?_
        go_wp2
        go_roundw
        case rel => exact ⟨k + 1, _, _, by omega, by go_num, by rw [rqs_snoc]; exact Hsn.out, h11.bring [1, 0]⟩
        case measure => simp [intOf]; omega
      · obtain rfl : k = qs.length := by omega
        have e9 : rqs rs = reqsOf s 7 := by
          rw [hrs, List.take_length]
          show _ = s.N.map _
          rw [← Hqs.out, List.map_map]; rfl
        have h8 := sat_ReqsL.2 ⟨rs, e9, hs⟩
        have h9 := sat_PutsL.2 ⟨qs, Hqs.out, (SatL.pull h8 2 : SatL wr (PutsR _ _ :: _))⟩
        have hH := rent_fin Hf.out (h9.bring [2, 1, 3, 0])
        clear hs h8 h9 e9 hrs
        go_wp2
        go_end0
        exact Ret.mk hH
end
end Go.Proofs.Ytjjnadlklfegcaa

namespace Go.Proofs.Ytjjnadlklfegcaa
set_option linter.unusedVariables false
set_option linter.unusedSimpArgs false
open Go.RowKit

section
variable {w : World} {L : List HP} {xb : Nat} {s : LogS}
theorem refenter_ok {p : Nat} (hp : 1 ≤ p ∧ p ≤ 8) (hq : s.seq < 18446744073709551616) (hst : 0 ≤ s.start ∧ s.start ≤ 4611686018427387904) (hN : recErr s.N = 0) (h : SatL w (RefR xb s :: L)) :
    Calls Try.prog 76 #[.pointer (some ⟨xb, 0, none⟩), .int .i64 p] w (Ret fun r w' => SatL w' (RefR xb (s.enter p) :: L)) := by
  have hc : ((p = 2 ∨ p = 4 ∨ p = 6 ∨ p = 8) ∨ p = 1 ∨ p = 5) ∨ p = 7 ∨ p = 3 := by omega
  rcases hc with hc | hc | hc
  · exact refenterA_ok hc hq hst hN h
  · exact refenter7_ok hc hq hst hN h
  · exact refenter3_ok hc hq hst hN h
set_option maxHeartbeats 2000000 in
theorem refstart_ok (hs : s.seq < 18446744073709551616) (hst : 0 ≤ s.start ∧ s.start ≤ 4611686018427387904) (hnum : s.number ≤ 4611686018427387904) (hn : (s.L.map (·.1)).Nodup) (h : SatL w (RefR xb s :: L)) :
    Calls Try.prog 61 #[.pointer (some ⟨xb, 0, none⟩)] w (Ret fun r w' => r = .int .i64 s.startS.1 ∧ SatL w' (RefR xb s.startS.2 :: L)) := by
  obtain ⟨lv, nv, rv, hf, h1⟩ := sat_RefR.1 h
  have c5 : w.cell? ⟨xb, 5, none⟩ = some (.int .i64 s.phase) := h1.cell (i := 5) rfl
  by_cases hp : s.phase = 0
  · obtain ⟨a, c, rfl, q1, q2⟩ := PutsL.valn (SatL.pull h1 1 : SatL w (PutsL _ _ :: _))
    have c3 : w.cell? ⟨xb, 3, none⟩ = some (.slice a s.L.length c) := h1.cell (i := 3) rfl
    rw [hp] at c5
    by_cases hL : s.L = []
    · have e : Hid (s.startS = (2, s)) := hid (by unfold LogS.startS; rw [if_neg (by omega), if_pos hL])
      have hz : s.L.length = 0 := by rw [hL]; rfl
      rw [hz] at c3
      clear h1 hz hL hn hp q1
      go_enter Try.func61, Try.ntmps61
      go_wp2
      go_ret
      exact Ret.mk ⟨by rw [e.out]; rfl, by rw [e.out]; exact h⟩
    · have e : Hid (s.startS = (0, s.begun.enter 1)) := hid (by unfold LogS.startS; rw [if_neg (by omega), if_neg hL])
      have hz : ¬ ((s.L.length : Nat) : Int) = 0 := by
        have := List.length_pos_iff.2 hL
        omega
      have c4 : w.cell? ⟨xb, 4, none⟩ = some nv := h1.cell (i := 4) rfl
      have c2 : w.cell? ⟨xb, 2, none⟩ = some (.int .i64 s.number) := h1.cell (i := 2) rfl
      have f4 := h1.free 4
      have f3 := h1.free 3
      have f2 := h1.free 2
      have hx := ((h1.set (i := 4) (.slice a s.L.length c)).set (i := 3) (.slice none 0 0)).set (i := 2) (.int .i64 ((s.number : Int) + 1))
      have hN : recErr s.L = 0 := fit_sound hf.1 hn hL
      have hy : SatL (((w.setCell ⟨xb, 4, none⟩ (.slice a s.L.length c)).setCell ⟨xb, 3, none⟩ (.slice none 0 0)).setCell ⟨xb, 2, none⟩ (.int .i64 ((s.number : Int) + 1))) (RefR xb { s with L := [], N := s.L, number := s.number + 1 } :: L) :=
        sat_RefR.2 ⟨.slice none 0 0, .slice a s.L.length c, rv, ⟨Fit.nil, hf.1⟩, (PutsL.nil (SatL.tail (hx.bring [2, 0, 1, 3]))).bring [1, 0, 2, 3]⟩
      have he := refenter_ok (s := { s with L := [], N := s.L, number := s.number + 1 }) (p := 1) (by omega) hs hst hN hy
      rw [show ((1 : Nat) : Int) = 1 from rfl] at he
      have hnz : (s.number : Int) ≤ 4611686018427387904 := by omega
      have hn0 : (0 : Int) ≤ s.number := by omega
      clear h h1 hx hy hN hL hn q1 hf hp
      go_enter Try.func61, Try.ntmps61
      go_wp2_with (go_at_call 76; (with_reducible refine he.mono ?_); rintro e2 w2 ⟨r, rfl, g1⟩)
      go_ret
      exact Ret.mk ⟨by rw [e.out]; rfl, by rw [e.out]; exact g1⟩
  · have e : Hid (s.startS = (8, s)) := hid (by unfold LogS.startS; rw [if_pos hp])
    have hz : ¬ ((s.phase : Nat) : Int) = 0 := by omega
    clear h1 hp hn
    go_enter Try.func61, Try.ntmps61
    go_wp2
    go_ret
    exact Ret.mk ⟨by rw [e.out]; rfl, by rw [e.out]; exact h⟩
set_option maxRecDepth 100000 in
set_option maxHeartbeats 4000000 in
theorem refdid_ok {n : Int} (ok : LogInv s) (hn : -9223372036854775808 ≤ n ∧ n ≤ 9223372036854775807) (h : SatL w (RefR xb s :: L)) :
    Calls Try.prog 64 #[.pointer (some ⟨xb, 0, none⟩), .int .i64 n] w (Ret fun r w' => r = .int .i64 (s.didS n).1 ∧ SatL w' (RefR xb (s.didS n).2 :: L)) := by
  obtain ⟨oseq, ostart, onum, onow, oph, odon, otold, ofew, odata⟩ := ok
  obtain ⟨lv, nv, rv, hf, h1⟩ := sat_RefR.1 h
  have c7 : w.cell? ⟨xb, 7, none⟩ = some (.int .i64 ((s.told : Int) - s.don)) := h1.cell (i := 7) rfl
  obtain ⟨T, hT⟩ : ∃ T : Int, T = (s.told : Int) - s.don := ⟨_, rfl⟩
  rw [← hT] at c7
  by_cases h0 : n < 0 ∨ T < n
  · have e : Hid (s.didS n = (1, s)) := hid (by unfold LogS.didS; rw [if_pos (by rw [← hT]; exact h0)])
    clear h1 onow odata
    rcases h0 with h0 | h0
    · go_enter Try.func64, Try.ntmps64
      go_wp2
      go_ret
      exact Ret.mk ⟨by rw [e.out]; rfl, by rw [e.out]; exact h⟩
    · by_cases h00 : n < 0
      · go_enter Try.func64, Try.ntmps64
        go_wp2
        go_ret
        exact Ret.mk ⟨by rw [e.out]; rfl, by rw [e.out]; exact h⟩
      · go_enter Try.func64, Try.ntmps64
        go_wp2
        go_ret
        exact Ret.mk ⟨by rw [e.out]; rfl, by rw [e.out]; exact h⟩
  · obtain ⟨k, rfl⟩ : ∃ k : Nat, n = k := ⟨n.toNat, by omega⟩
    have e0 : s.didS (k : Int) = (0, (s.more k).next) := by
      unfold LogS.didS
      rw [if_neg (by rw [← hT]; exact h0)]
      simp
    have E0 := hid e0
    have hk0 : ¬ ((k : Int) < 0) := by omega
    have hk1 : ¬ (T < (k : Int)) := by omega
    have hTb : 0 ≤ T ∧ T ≤ 1000 := by omega
    obtain ⟨ra, rc, rfl, r1, r2⟩ := ReqsL.valn (SatL.pull h1 3 : SatL w (ReqsL _ _ :: _))
    have f7 := h1.free 7
    have h2 := h1.set (i := 7) (.int .i64 (T - k))
    have e7 : (refCells lv nv (.slice ra (s.R.drop s.told).length rc) s).setIfInBounds 7 (.int .i64 (T - k)) = refCells lv nv (.slice ra (s.R.drop s.told).length rc) (s.more k) := by
      unfold refCells LogS.more
      simp only
      rw [show ((s.told : Int) - ((s.don + k : Nat) : Int)) = T - k by omega]
      rfl
    rw [e7] at h2
    have d5 := h2.cell (i := 5) (v := .int .i64 s.phase) rfl
    have d6 := h2.cell (i := 6) (v := .slice ra (s.R.drop s.told).length rc) rfl
    have d7 : (w.setCell ⟨xb, 7, none⟩ (.int .i64 (T - k))).cell? ⟨xb, 7, none⟩ = some (.int .i64 (T - k)) := by
      have := h1.set (i := 7) (.int .i64 (T - k))
      exact this.cell (i := 7) rfl
    have hdl : (s.R.drop s.told).length = s.R.length - s.told := List.length_drop
    obtain ⟨D, hD⟩ : ∃ D, D = (s.R.drop s.told).length := ⟨_, rfl⟩
    rw [← hD] at d6 hdl
    have hm : SatL (w.setCell ⟨xb, 7, none⟩ (.int .i64 (T - k))) (RefR xb (s.more k) :: L) := sat_RefR.2 ⟨lv, nv, _, hf, h2⟩
    have hDz : (D : Int) ≤ 1000 := by omega
    have hD0 : (0 : Int) ≤ D := by omega
    by_cases hq : s.phase = 0 ∨ s.don + k < s.R.length
    · have e : Hid ((s.more k).next = s.more k) := hid (by
        have hq' : (s.more k).phase = 0 ∨ (s.more k).don < (s.more k).R.length := hq
        unfold LogS.next
        rw [if_pos hq'])
      by_cases hp : s.phase = 0
      · rw [hp] at d5
        clear h h1 h2 e7 e0 hq onow odata hdl hD hT
        go_enter Try.func64, Try.ntmps64
        go_wp2
        go_ret
        exact Ret.mk ⟨by rw [E0.out]; rfl, by rw [E0.out, e.out]; exact hm⟩
      · have hpz : ¬ ((s.phase : Nat) : Int) = 0 := by omega
        have hq2 : s.don + k < s.R.length := hq.resolve_left hp
        by_cases h3 : 0 < T - (k : Int)
        · clear h h1 h2 e7 e0 hq onow odata hdl hD hT hp hq2
          go_enter Try.func64, Try.ntmps64
          go_wp2
          go_ret
          exact Ret.mk ⟨by rw [E0.out]; rfl, by rw [E0.out, e.out]; exact hm⟩
        · have h4 : (0 : Int) < D := by omega
          clear h h1 h2 e7 e0 hq onow odata hdl hD hT hp hq2
          go_enter Try.func64, Try.ntmps64
          go_wp2
          go_ret
          exact Ret.mk ⟨by rw [E0.out]; rfl, by rw [E0.out, e.out]; exact hm⟩
    · have hp : s.phase ≠ 0 := fun h => hq (.inl h)
      have hq2 : ¬ s.don + k < s.R.length := fun h => hq (.inr h)
      have hT0 : T - (k : Int) = 0 := by omega
      have hDn : D = 0 := by omega
      have hdr : s.R.drop s.told = [] := List.length_eq_zero_iff.1 (by rw [← hD]; exact hDn)
      have hmr : (s.more k).next = if s.phase = 8 then (s.more k).through else (s.more k).stays.enter (s.phase + 1) := by
        have hq' : ¬ ((s.more k).phase = 0 ∨ (s.more k).don < (s.more k).R.length) := hq
        unfold LogS.next
        rw [if_neg hq']; rfl
      have hrE : recErr s.N = 0 := onow hp
      have hpz : ¬ ((s.phase : Nat) : Int) = 0 := by omega
      have e11 : ((s.told : Int) - ((s.don + k : Nat) : Int)) = 0 := by omega
      rw [hDn] at d6
      rw [hT0] at d7
      have w1d : SatL (w.setCell ⟨xb, 7, none⟩ (.int .i64 0)) (cl xb 77 (refCells lv nv (.slice ra 0 rc) (s.more k)) :: PutsL lv s.L :: PutsL nv s.N :: ReqsL (.slice ra 0 rc) [] :: L) := by
        rw [hdr, hT0] at h2
        exact h2
      rw [hT0] at d5 d6
      have hTk : T = (k : Int) := by omega
      by_cases h8 : s.phase = 8
      · have E : Hid ((s.more k).next = (s.more k).through) := hid (by rw [hmr, if_pos h8])
        rw [h8] at d5
        rw [show ((8 : Nat) : Int) = 8 from rfl] at d5
        have c1 : (w.setCell ⟨xb, 7, none⟩ (.int .i64 0)).cell? ⟨xb, 1, none⟩ = some (.int .u64 s.seq) := w1d.cell (i := 1) rfl
        have c4 : (w.setCell ⟨xb, 7, none⟩ (.int .i64 0)).cell? ⟨xb, 4, none⟩ = some nv := w1d.cell (i := 4) rfl
        have g1 := w1d.free 1
        have g4 := w1d.free 4
        have g5 := w1d.free 5
        have hw : IntKind.u64.wrap ((s.seq : Int) + 1) = (((s.seq + 1) % 18446744073709551616 : Nat) : Int) := by
          rcases Nat.lt_or_ge (s.seq + 1) 18446744073709551616 with h5 | h5
          · rw [Nat.mod_eq_of_lt h5]
            have := u64_in (s.seq + 1) h5
            push_cast at this ⊢
            exact this
          · have : s.seq = 18446744073709551615 := by omega
            rw [this]; rfl
        obtain ⟨sq, hsq⟩ : ∃ sq, sq = (s.seq + 1) % 18446744073709551616 := ⟨_, rfl⟩
        rw [← hsq] at hw
        have h5 := ((w1d.set (i := 5) (.int .i64 0)).set (i := 4) (.slice none 0 0)).set (i := 1) (.int .u64 sq)
        have hes : (s.more k).through = ⟨s.L, [], 0, [], 0, 0, s.start, sq, s.number, s.durable⟩ := by rw [hsq]; rfl
        have hec : ((((refCells lv nv (.slice ra 0 rc) (s.more k)).setIfInBounds 5 (.int .i64 0)).setIfInBounds 4 (.slice none 0 0)).setIfInBounds 1 (.int .u64 sq)) = refCells lv (.slice none 0 0) (.slice ra 0 rc) ⟨s.L, [], 0, [], 0, 0, s.start, sq, s.number, s.durable⟩ := by
          unfold refCells LogS.more
          simp only
          rw [e11]; rfl
        rw [hec] at h5
        have hfin := (sat_RefR (s := ⟨s.L, [], 0, [], 0, 0, s.start, sq, s.number, s.durable⟩)).2 ⟨lv, .slice none 0 0, .slice ra 0 rc, ⟨hf.1, Fit.nil⟩, (PutsL.nil (SatL.tail (h5.bring [2, 0, 1, 3]))).bring [1, 2, 0, 3]⟩
        rw [← hes] at hfin
        clear h5 hes hec hsq hf hrE h8 hpz h h1 h2 hm w1d e7 e0 hq onow odata hdl hD hT hp hq2 hmr hdr e11
        go_enter Try.func64, Try.ntmps64
        go_wp2
        go_ret
        exact Ret.mk ⟨by rw [E0.out]; rfl, by rw [E0.out, E.out]; exact SatL.to hfin⟩
      · have h8z : ¬ (s.phase : Int) = 8 := by omega
        by_cases h6 : s.phase = 6
        · have E : Hid ((s.more k).next = (s.more k).stays.enter 7) := hid (by rw [hmr, if_neg h8, h6])
          rw [h6] at d5
          rw [show ((6 : Nat) : Int) = 6 from rfl] at d5
          have c2 : (w.setCell ⟨xb, 7, none⟩ (.int .i64 0)).cell? ⟨xb, 2, none⟩ = some (.int .i64 s.number) := w1d.cell (i := 2) rfl
          have c8 : (w.setCell ⟨xb, 7, none⟩ (.int .i64 0)).cell? ⟨xb, 8, none⟩ = some (.int .i64 s.durable) := w1d.cell (i := 8) rfl
          have g8 := w1d.free 8
          have hn1 : (1 : Int) ≤ s.number := by omega
          have hn2 : (s.number : Int) ≤ 4611686018427387904 := by omega
          have h5 := w1d.set (i := 8) (.int .i64 ((s.number : Int) - 1))
          have e5 : (refCells lv nv (.slice ra 0 rc) (s.more k)).setIfInBounds 8 (.int .i64 ((s.number : Int) - 1)) = refCells lv nv (.slice ra 0 rc) (s.more k).stays := by
            have e6 : (s.more k).stays = { s.more k with durable := s.number - 1 } := by unfold LogS.stays; rw [if_pos (show (s.more k).phase = 6 from h6)]; rfl
            rw [e6]
            have e7 : ((s.number : Int) - 1) = ((s.number - 1 : Nat) : Int) := by omega
            rw [e7]; rfl
          have est : (s.more k).stays.L = s.L ∧ (s.more k).stays.N = s.N ∧ (s.more k).stays.R.drop (s.more k).stays.told = s.R.drop s.told ∧ (s.more k).stays.seq = s.seq ∧ (s.more k).stays.start = s.start := by
            unfold LogS.stays; split <;> exact ⟨rfl, rfl, rfl, rfl, rfl⟩
          obtain ⟨s1, s2, s3, s4, s5⟩ := est
          rw [e5] at h5
          have hfin : SatL _ (RefR xb (s.more k).stays :: L) := (sat_RefR (s := (s.more k).stays)).2 ⟨lv, nv, .slice ra 0 rc, by rw [s1, s2]; exact hf, by rw [s1, s2, s3, hdr]; exact h5⟩
          have hent := refenter_ok (s := (s.more k).stays) (p := 7) (by omega) (by rw [s4]; exact oseq) (by rw [s5]; exact ostart) (by rw [s2]; exact hrE) hfin
          rw [show ((7 : Nat) : Int) = 7 from rfl] at hent
          clear h5 e5 hfin hf hrE h6 h8 h8z hpz h h1 h2 hm w1d e7 e0 hq onow odata hdl hD hT hp hq2 hmr hdr e11 s1 s2 s3 s4 s5
          go_enter Try.func64, Try.ntmps64
          go_wp2_with (go_at_call 76; (with_reducible refine hent.mono ?_); rintro e w3 ⟨r, rfl, h9⟩)
          go_ret
          exact Ret.mk ⟨by rw [E0.out]; rfl, by rw [E0.out, E.out]; exact h9⟩
        · have h6z : ¬ (s.phase : Int) = 6 := by omega
          have es : (s.more k).stays = s.more k := by unfold LogS.stays; rw [if_neg (show ¬ (s.more k).phase = 6 from h6)]
          have E : Hid ((s.more k).next = (s.more k).enter (s.phase + 1)) := hid (by rw [hmr, if_neg h8, es])
          have hfin : SatL (w.setCell ⟨xb, 7, none⟩ (.int .i64 0)) (RefR xb (s.more k) :: L) := (sat_RefR (s := s.more k)).2 ⟨lv, nv, .slice ra 0 rc, hf, by rw [show (s.more k).R.drop (s.more k).told = [] from hdr]; exact w1d⟩
          have hent := refenter_ok (s := s.more k) (p := s.phase + 1) (by omega) oseq ostart hrE hfin
          rw [show ((s.phase + 1 : Nat) : Int) = (s.phase : Int) + 1 by omega] at hent
          have hpb : (s.phase : Int) ≤ 8 := by omega
          have hpb2 : (0 : Int) ≤ s.phase := by omega
          clear hfin hf hrE h6 h8 es h h1 h2 hm w1d e7 e0 hq onow odata hdl hD hT hp hq2 hmr hdr e11
          go_enter Try.func64, Try.ntmps64
          go_wp2_with (go_at_call 76; (with_reducible refine hent.mono ?_); rintro e w3 ⟨r, rfl, h9⟩)
          go_ret
          exact Ret.mk ⟨by rw [E0.out]; rfl, by rw [E0.out, E.out]; exact h9⟩
end
end Go.Proofs.Ytjjnadlklfegcaa

namespace Go.Proofs.Ytjjnadlklfegcaa
set_option linter.unusedVariables false
set_option linter.unusedSimpArgs false
open Go.RowKit
section
variable {s : LogS}
theorem inv_join (h : LogInv s) (ls : List PD) : LogInv (s.join ls).2.2 := by
  unfold LogS.join
  split
  · exact h
  · split
    · exact h
    · exact ⟨h.seq, h.start, h.num, h.now, h.ph, h.don, h.told, h.few, h.data⟩
theorem num_join (ls : List PD) : (s.join ls).2.2.number = s.number := by
  unfold LogS.join
  split
  · rfl
  · split <;> rfl
theorem inv_want (h : LogInv s) : LogInv s.wanted := ⟨h.seq, h.start, h.num, h.now, h.ph, Nat.le_trans h.don h.told, Nat.le_refl _, h.few, h.data⟩
theorem inv_enter {p : Nat} (hp : p ≤ 8) (hq : s.seq < 18446744073709551616) (hst : 0 ≤ s.start ∧ s.start ≤ 4611686018427387904) (hn : 1 ≤ s.number ∧ s.number ≤ 4611686018427387904) (hN : recErr s.N = 0) (hf : Fit s.N) : LogInv (s.enter p) :=
  ⟨hq, hst, hn, fun _ => hN, hp, Nat.le_refl 0, Nat.zero_le _, (reqs_small hN hf p).1, (reqs_small hN hf p).2⟩
theorem inv_start (h : LogInv s) (hf : Fit s.L) (hn : (s.L.map (·.1)).Nodup) (hm : s.number + 1 ≤ 4611686018427387904) : LogInv s.startS.2 := by
  unfold LogS.startS
  split
  · exact h
  · split
    · exact h
    · rename_i h1 h2
      exact inv_enter (s := s.begun) (by omega) h.seq h.start ⟨Nat.le_trans h.num.1 (Nat.le_succ _), hm⟩ (fit_sound hf hn h2) hf
theorem num_start : s.startS.2.number ≤ s.number + 1 := by
  unfold LogS.startS
  split
  · exact Nat.le_succ _
  · split
    · exact Nat.le_succ _
    · exact Nat.le_refl _
theorem inv_next (h : LogInv s) (hf : Fit s.N) : LogInv s.next := by
  unfold LogS.next
  split
  · exact h
  · rename_i h0
    split
    · exact ⟨Nat.mod_lt _ (by omega), h.start, h.num, fun hh => absurd rfl hh, Nat.zero_le _, Nat.le_refl _, Nat.zero_le _, Nat.zero_le _, fun r hr => absurd hr (by simp [LogS.through])⟩
    · rename_i h8
      have hN := h.now (fun e => h0 (.inl e))
      have hp := h.ph
      have e : s.stays.seq = s.seq ∧ s.stays.start = s.start ∧ s.stays.number = s.number ∧ s.stays.N = s.N := by unfold LogS.stays; split <;> exact ⟨rfl, rfl, rfl, rfl⟩
      exact inv_enter (by omega) (by rw [e.1]; exact h.seq) (by rw [e.2.1]; exact h.start) (by rw [e.2.2.1]; exact h.num) (by rw [e.2.2.2]; exact hN) (by rw [e.2.2.2]; exact hf)
theorem inv_did {n : Int} (h : LogInv s) (hf : Fit s.N) : LogInv (s.didS n).2 := by
  unfold LogS.didS
  split
  · exact h
  · rename_i h0
    have hd := h.don
    refine inv_next (s := s.more n.toNat) ⟨h.seq, h.start, h.num, h.now, h.ph, ?_, h.told, h.few, h.data⟩ hf
    show s.don + n.toNat ≤ s.told
    omega
theorem num_did {n : Int} : (s.didS n).2.number = s.number := by
  unfold LogS.didS
  split
  · rfl
  · unfold LogS.next
    split
    · rfl
    · split
      · rfl
      · unfold LogS.stays LogS.enter
        split <;> rfl
theorem inv_new {start : Int} {seq : Nat} (hq : seq < 18446744073709551616) (hst : 0 ≤ start ∧ start ≤ 4611686018427387904) : LogInv (logNew start seq) :=
  ⟨hq, hst, ⟨Nat.le_refl 1, by show (1 : Nat) ≤ _; omega⟩, fun h => absurd rfl h, Nat.zero_le _, Nat.le_refl _, Nat.zero_le _, Nat.zero_le _, fun r hr => absurd hr (by simp [logNew])⟩
end
end Go.Proofs.Ytjjnadlklfegcaa

namespace Go.Proofs.Ytjjnadlklfegcaa
set_option linter.unusedVariables false
set_option linter.unusedSimpArgs false
open Go.RowKit
section
variable {w : World} {L : List HP}
set_option maxRecDepth 100000 in
set_option maxHeartbeats 4000000 in
theorem samereqs_ok {av bv : Value} {ps qs : List Rp} (he : rqs ps = rqs qs) (h : SatL w (ReqsR av ps :: ReqsR bv qs :: L)) :
    Calls Try.prog 62 #[av, bv] w (Ret fun r w' => r = .bool true ∧ SatL w' (ReqsR av ps :: ReqsR bv qs :: L)) := by
  obtain ⟨aa, ac, rfl, p1, p2⟩ := SlK.valn (sat_ReqsR.1 h)
  obtain ⟨ba, bc, rfl, p3, p4⟩ := SlK.valn (sat_ReqsR.1 (h.pull 1 : SatL _ (ReqsR _ _ :: _)))
  have hl : ps.length = qs.length := by have := congrArg List.length he; rwa [List.length_map, List.length_map] at this
  have He := hid he
  clear he
  rw [hl] at h p1 ⊢
  go_enter Try.func62, Try.ntmps62
  go_wp2
  go_loopw [5] (fun i wr => ∃ j : Nat, j ≤ qs.length ∧ i = .int .i64 j ∧ SatL wr (ReqsR (.slice aa qs.length ac) ps :: ReqsR (.slice ba qs.length bc) qs :: L)) (fun i _ => qs.length - (intOf i).toNat)
  case atStart => exact ⟨0, by omega, rfl, h⟩
  case round =>
    clear h
    obtain ⟨j, hj, rfl, hs⟩ := hrel
    by_cases hlt : j < qs.length
    · have hq : qs[j]? = some qs[j] := List.getElem?_eq_getElem hlt
      obtain ⟨p, hp, e1, e2, e4⟩ := rqs_nth He.out (show (rqs qs)[j]? = some _ by rw [List.getElem?_map, hq]; rfl)
      have e3 : p.n = qs[j].n := by
        have h1 : (rqs ps)[j]? = (rqs qs)[j]? := by rw [He.out]
        rw [List.getElem?_map, List.getElem?_map, hp, hq] at h1
        injection h1 with h1
        injection h1
      simp only at e1 e2 e4
      obtain ⟨b1, o1, rfl⟩ := rq_addr hs (by omega)
      obtain ⟨b2, o2, rfl⟩ := rq_addr (hs.pull 1 : SatL _ (ReqsR _ _ :: _)) (by omega)
      obtain ⟨va, vc, hv, _, _⟩ := rq_val hs (List.mem_of_getElem? hp)
      obtain ⟨ua, uc, hu, _, _⟩ := rq_val (hs.pull 1 : SatL _ (ReqsR _ _ :: _)) (List.mem_of_getElem? hq)
      obtain ⟨c0, c1, c3, r1⟩ := rq_cells hp hs
      obtain ⟨d0, d1, d3, r2⟩ := rq_cells hq (hs.pull 1 : SatL _ (ReqsR _ _ :: _))
      obtain ⟨bb1, oo1, ee1, hc1⟩ := (SlK.rdk (sat_ReqsR.1 hs)).at (by omega)
      cases ee1
      obtain ⟨bb2, oo2, ee2, hc2⟩ := (SlK.rdk (sat_ReqsR.1 (hs.pull 1 : SatL _ (ReqsR _ _ :: _)))).at (by omega)
      cases ee2
      have c2 := hc1 _ _ (rcells_get hp).2.2.1
      have d2 := hc2 _ _ (rcells_get hq).2.2.1
      rw [← Nat.add_assoc] at c2 d2
      rw [hv] at c3 r1
      rw [hu] at d3 r2
      rw [e4] at r1 c3
      rw [e1] at c0
      rw [e2] at c1
      rw [e3] at c2
      have v1 := fun m => RdB.conv (r1.drewN m)
      have v2 := fun m => RdB.conv (r2.drewN m)
      have hz : (j : Int) < qs.length := by omega
      clear r1 r2 hc1 hc2 hp hq hv hu e1 e2 e3 e4
      generalize qs[j].d = qd at *
      generalize qs[j].k = q1 at *
      generalize qs[j].b = q2 at *
      generalize qs[j].n = q3 at *
      generalize (⟨qd.toArray⟩ : ByteArray) = s1 at *
      generalize qd.length = l1 at *
      have Hs := hid hs
      clear hs
      go_wp2
      go_quiet (fail)
      go_wp2
      go_roundw
      case rel => exact ⟨j + 1, by omega, by go_num, (sat_drewN _).2 Hs.out⟩
      case measure => simp [intOf]; omega
    · obtain rfl : j = qs.length := by omega
      go_wp2
      go_ret
      exact Ret.mk ⟨rfl, hs⟩
end
end Go.Proofs.Ytjjnadlklfegcaa

namespace Go.Proofs.Ytjjnadlklfegcaa
set_option linter.unusedVariables false
set_option linter.unusedSimpArgs false
open Go.RowKit
section
variable {w : World} {L : List HP} {pb xb : Nat} {s : LogS}
theorem bvs_setD {l : List UInt8} {j x : Nat} (hx : x < 256) : (bvs l).set j (.int .u8 (x : Int)) = bvs (l.set j (byteOf x)) := by
  have : Value.int .u8 (x : Int) = bv (byteOf x) := by rw [bv, byteOf_nat, Nat.mod_eq_of_lt hx]
  rw [this]; exact List.map_set.symm
/-- a byte of a block's bytes is turned -/
theorem PutsR.setd {lv : Value} {db off dn dc : Nat} {ps : List Pt} {p : Pt} {i k : Nat} (h : SatL w (PutsR lv ps :: L)) (hp : ps[i]? = some p) (hv : p.v = .slice (some ⟨db, off, none⟩) dn dc) (hk : k < p.d.length) (x : Nat) (hx : x < 256) :
    (∃ u : Value, w.cell? ⟨db, off + k, none⟩ = some u) ∧ w.frozen? ⟨db, off + k, none⟩ = false ∧ SatL (w.setCell ⟨db, off + k, none⟩ (.int .u8 (x : Int))) (PutsR lv (ps.set i ⟨p.b, p.v, p.d.set k (byteOf x)⟩) :: L) := by
  have hi : i < ps.length := (List.getElem?_eq_some_iff.1 hp).1
  have h3 := (sat_PutsR.1 h).swap
  have hsp : ps = ps.take i ++ p :: ps.drop (i + 1) := by
    have := List.take_append_drop i ps
    rw [List.drop_eq_getElem_cons hi] at this
    have e := (List.getElem?_eq_some_iff.1 hp).2
    rw [e] at this; exact this.symm
  have e2 : ps.set i ⟨p.b, p.v, p.d.set k (byteOf x)⟩ = ps.take i ++ ⟨p.b, p.v, p.d.set k (byteOf x)⟩ :: ps.drop (i + 1) := by
    rw [List.set_eq_take_append_cons_drop, if_pos hi]
  have e0 : big (fun p : Pt => SlB 5 p.v p.d) ps = big (fun p : Pt => SlB 5 p.v p.d) (ps.take i ++ p :: ps.drop (i + 1)) := congrArg _ hsp
  have e3 : big (fun p : Pt => SlB 5 p.v p.d) (ps.set i ⟨p.b, p.v, p.d.set k (byteOf x)⟩) = big (fun p : Pt => SlB 5 p.v p.d) (ps.take i ++ ⟨p.b, p.v, p.d.set k (byteOf x)⟩ :: ps.drop (i + 1)) := congrArg _ e2
  have e4 : pcells (ps.set i ⟨p.b, p.v, p.d.set k (byteOf x)⟩) = pcells ps := by
    rw [e2]
    conv => rhs; rw [hsp]
    simp [pcells]
  rw [e0] at h3
  have h5 := (big_mid (f := fun p : Pt => SlB 5 p.v p.d)).1 h3
  rw [hv] at h5
  have hb : k < (bvs p.d).length := by rw [bvs_len]; exact hk
  refine ⟨⟨_, SlB.cell h5 hk⟩, Sl.free h5 (off + k), ?_⟩
  have h6 := Sl.set h5 hb (.int .u8 (x : Int))
  rw [bvs_setD hx, ← hv] at h6
  have h7 := (big_mid (f := fun p : Pt => SlB 5 p.v p.d) (x := (⟨p.b, p.v, p.d.set k (byteOf x)⟩ : Pt)) (a := ps.take i) (b := ps.drop (i + 1))).2 h6
  rw [← e3] at h7
  refine sat_PutsR.2 ?_
  rw [e4, List.length_set]
  exact h7.swap
theorem join_at {v : Value} {ps : List Pt} {P : List PD} (hp : pds ps = P) (hn : P.length ≤ 1000) (hd : ∀ q ∈ P, q.2.length ≤ 1000000) (h : SatL w (LogR pb s :: PutsR v ps :: L)) :
    Calls Try.prog 23 #[.pointer (some ⟨pb, 0, none⟩), v] w (Ret fun r w' => r = .tuple #[.int .i64 (s.join P).1, .int .i64 (s.join P).2.1] ∧ SatL w' (LogR pb (s.join P).2.2 :: PutsR v ps :: L)) := by
  subst hp
  rw [List.length_map] at hn
  exact join_ok h (fun w' h' => PutsR.rdpd h') (by omega) (fun p hp => hd (p.b, p.d) (List.mem_map_of_mem hp))
theorem refjoin_at {v : Value} {ps : List Pt} {P : List PD} (hp : pds ps = P) (hn : P.length ≤ 1000) (hd : ∀ q ∈ P, q.2.length ≤ 1000000) (h : SatL w (RefR xb s :: PutsR v ps :: L)) :
    Calls Try.prog 60 #[.pointer (some ⟨xb, 0, none⟩), v] w (Ret fun r w' => r = .tuple #[.int .i64 (s.join P).1, .int .i64 (s.join P).2.1] ∧ SatL w' (RefR xb (s.join P).2.2 :: PutsR v ps :: L)) := by
  subst hp
  rw [List.length_map] at hn
  exact refjoin_ok h (fun w' h' => PutsR.rdpd h') (by omega) (fun p hp => hd (p.b, p.d) (List.mem_map_of_mem hp))
theorem putL_small (n : Nat) (A S : Nat → Int) (B : Nat → Nat) : ∀ q ∈ putL n A S B, q.2.length ≤ 1000000 := by
  intro q hq
  unfold putL at hq
  obtain ⟨i, hi, rfl⟩ := List.mem_map.1 hq
  unfold putD
  rw [putB_len]
  have := putN_le (S i); omega

set_option maxRecDepth 100000 in
set_option maxHeartbeats 8000000 in
theorem done_join {a : Option Addr} {n c : Nat} {A S : Nat → Int} {B : Nat → Nat} {nn : Int} (hB : ∀ i, B i < 256) (hn : n ≤ 100) (h : SatL w (LogR pb s :: RefR xb s :: L)) (g : Gives L (BlkRow a n A S B)) :
    Calls Try.prog 33 #[.pointer (some ⟨pb, 0, none⟩), .pointer (some ⟨xb, 0, none⟩), .agg #[.int .i64 1, .int .i64 nn, .slice a n c]] w
      (Ret fun r w' => r = .bool true ∧ SatL w' (LogR pb (s.join (putL n A S B)).2.2 :: RefR xb (s.join (putL n A S B)).2.2 :: L)) := by
  have h1 := h.alloc (.cells #[.int .i64 1, .int .i64 nn, .slice a n c] 74)
  have c0 := SatL.cell h1 (i := 0) (v := .int .i64 1) rfl
  have c2 := SatL.cell h1 (i := 2) (v := .slice a n c) rfl
  have hn1 : n ≤ 1000000 := by omega
  have hja := fun (w' : World) (L' : List HP) (v : Value) (ps : List Pt) (hp : pds ps = putL n A S B) (h : SatL w' (LogR pb s :: PutsR v ps :: L')) => join_at hp (by rw [putL_len]; omega) (putL_small n A S B) h
  have hra := fun (w' : World) (L' : List HP) (v : Value) (ps : List Pt) (hp : pds ps = putL n A S B) (h : SatL w' (RefR xb s :: PutsR v ps :: L')) => refjoin_at hp (by rw [putL_len]; omega) (putL_small n A S B) h
  have hpl := putL_len n A S B
  have hpu := fun (w' : World) (L' : List HP) (h : SatL w' L') (g : Gives L' (BlkRow a n A S B)) => puts_ok (c := c) hB hn1 h g
  generalize putL n A S B = P at *
  generalize s.join P = J at *
  obtain ⟨j1, j2, s'⟩ := J
  simp only at *
  clear h
  have Hja := hid hja
  have Hra := hid hra
  have Hpu := hid hpu
  have Hpl := hid hpl
  clear hja hra hpu hpl hn1
  go_enter Try.func33, Try.ntmps33
  go_wp2_with (first
    | (go_at_call 12; (with_reducible refine (Hpu.out _ _ h1 g.next.next.next).mono ?_); rintro e w2 ⟨v2, rfl, hA0⟩; obtain ⟨ps, hps, hA⟩ := sat_PutsL.1 hA0; have Hps := hid hps; have hpn : ps.length = n := (by have := congrArg List.length hps; rw [List.length_map] at this; rw [this]; exact Hpl.out); obtain ⟨aa, ac, hv2, q1, q2⟩ := (PutsR.rdpts hA).1.valn; rw [hpn] at hv2 q1; subst hv2; have Hpn := hid hpn; clear hps hpn hA0 h1)
    | (go_at_call 23; (with_reducible refine (Hja.out _ _ _ _ Hps.out (hA.bring [2, 0, 1, 3])).mono ?_); rintro e w3 ⟨v3, rfl, rfl, hB⟩; have d2 := SatL.cell (hB.pull 2 : SatL _ (cl _ _ _ :: _)) (i := 2) (v := .slice a n c) rfl; clear hA)
    | (go_at_call 12; (with_reducible refine (Hpu.out _ _ hB g.next.next.next.next).mono ?_); rintro e w4 ⟨v4, rfl, hC0⟩; obtain ⟨qs, hqs, hC⟩ := sat_PutsL.1 hC0; have Hqs := hid hqs; clear hqs hC0 hB)
    | (go_at_call 60; (with_reducible refine (Hra.out _ _ _ _ Hqs.out (hC.bring [4, 0, 1, 2, 3])).mono ?_); rintro e w5 ⟨v5, rfl, rfl, hD0⟩; have hE := SatL.tail (SatL.tail (hD0.bring [1, 4, 3, 2, 0])); clear hC hD0))
  go_loopw [12] (fun i wr => ∃ (j : Nat) (ps : List Pt), j ≤ n ∧ i = .int .i64 j ∧ ps.length = n ∧ SatL wr (PutsR (.slice aa n ac) ps :: LogR pb s' :: RefR xb s' :: L)) (fun i _ => n - (intOf i).toNat)
  case atStart => exact ⟨0, ps, by omega, rfl, Hpn.out, hE⟩
  case round =>
    clear hE Hps Hpn
    obtain ⟨j, ps, hj, rfl, hpn, hs⟩ := hrel
    by_cases hlt : j < n
    · have hjp : j < ps.length := by omega
      have hp : ps[j]? = some ps[j] := List.getElem?_eq_getElem hjp
      obtain ⟨va, vc, hv, i1, i2⟩ := PutsR.ptsl hs _ (List.getElem_mem hjp)
      obtain ⟨b, bo, rfl, _⟩ := (PutsR.rdpts hs).1.at (by omega)
      generalize ps[j] = p at *
      obtain ⟨dl, hdl⟩ : ∃ dl, p.d.length = dl := ⟨_, rfl⟩
      rw [hdl] at hv i1
      have hjz : (j : Int) < n := by omega
      have hS := hs
      have Hp := hid hp
      have Hv := hid hv
      have Hdl := hid hdl
      have Hpn := hid hpn
      clear hp hv hdl hpn hs
      go_wp2
      go_loopw [13] (fun i wr => ∃ (k : Nat) (ps : List Pt) (p : Pt), k ≤ dl ∧ i = .int .i64 k ∧ ps.length = n ∧ ps[j]? = some p ∧ p.v = .slice va dl vc ∧ p.d.length = dl ∧ SatL wr (PutsR (.slice (some ⟨b, bo, none⟩) n ac) ps :: LogR pb s' :: RefR xb s' :: L)) (fun i _ => dl - (intOf i).toNat)
      case atStart => exact ⟨0, ps, p, by omega, rfl, Hpn.out, Hp.out, Hv.out, Hdl.out, hS⟩
      case round =>
        clear hS Hp Hv Hdl Hpn
        obtain ⟨k, ps, p, hk, rfl, hpn, hp, hv, hdl, hs⟩ := hrel
        obtain ⟨_, c1⟩ := PutsR.cell2 hs hp
        rw [hv] at c1
        by_cases hkl : k < dl
        · have hrb := PutsR.rdb hs (List.mem_of_getElem? hp)
          rw [hv] at hrb
          have hpos : 0 < p.d.length := by omega
          obtain ⟨_, _, _, db, off, rfl, _⟩ := hrb.at hpos
          obtain ⟨⟨u, cu⟩, fu, hset⟩ := PutsR.setd hs hp hv (show k < p.d.length by omega) 238 (by decide)
          have hkz : (k : Int) < dl := by omega
          have hnew : Hid ((ps.set j ⟨p.b, p.v, p.d.set k (byteOf 238)⟩).length = n ∧ (ps.set j ⟨p.b, p.v, p.d.set k (byteOf 238)⟩)[j]? = some ⟨p.b, p.v, p.d.set k (byteOf 238)⟩ ∧ (p.d.set k (byteOf 238)).length = dl) :=
            hid ⟨by rw [List.length_set]; exact hpn, by rw [List.getElem?_set_self (show j < ps.length by omega)], by rw [List.length_set]; exact hdl⟩
          have Hset := hid hset
          have Hv := hid hv
          clear hrb hset hv hdl hp hpn hs
          go_wp2
          go_roundw
          case rel => exact ⟨k + 1, _, _, by omega, by go_num, hnew.out.1, hnew.out.2.1, Hv.out, hnew.out.2.2, Hset.out⟩
          case measure => simp [intOf]; omega
        · obtain rfl : k = dl := by omega
          have Hpn := hid hpn
          clear hv hdl hp hpn
          go_wp2
          go_roundw
          case rel => exact ⟨j + 1, ps, by omega, by go_num, Hpn.out, hs⟩
          case measure => simp [intOf]; omega
    · obtain rfl : j = n := by omega
      have hs' := SatL.tail hs
      clear hs hpn
      go_wp2
      go_ret
      exact Ret.mk ⟨rfl, hs'⟩

set_option maxRecDepth 100000 in
set_option maxHeartbeats 8000000 in
theorem done_start {sv : Value} {nn : Int} (ok : LogInv s) (hsv : ∃ a n c, sv = .slice a n c) (h : SatL w (LogR pb s :: RefR xb s :: L)) :
    Calls Try.prog 33 #[.pointer (some ⟨pb, 0, none⟩), .pointer (some ⟨xb, 0, none⟩), .agg #[.int .i64 2, .int .i64 nn, sv]] w
      (Ret fun r w' => r = .bool true ∧ SatL w' (LogR pb s.startS.2 :: RefR xb s.startS.2 :: L)) := by
  obtain ⟨a, n, c, rfl⟩ := hsv
  have h1 := h.alloc (.cells #[.int .i64 2, .int .i64 nn, .slice a n c] 74)
  have c0 := SatL.cell h1 (i := 0) (v := .int .i64 2) rfl
  have hst := start_ok (h1.bring [1, 0, 2]) ok.seq ok.start ok.num.2
  have hn := (LogR.nodup h).1
  have hrs := fun (w' : World) (L' : List HP) (h : SatL w' (RefR xb s :: L')) => refstart_ok ok.seq ok.start ok.num.2 hn h
  generalize s.startS = J at *
  obtain ⟨j1, s'⟩ := J
  simp only at hst hrs ⊢
  have Hst := hid hst
  have Hrs := hid hrs
  clear h h1 hst hrs hn
  go_enter Try.func33, Try.ntmps33
  go_wp2_with (first
    | (go_at_call 26; (with_reducible refine Hst.out.mono ?_); rintro e w2 ⟨v2, rfl, rfl, hA⟩)
    | (go_at_call 61; (with_reducible refine (Hrs.out _ _ (hA.bring [2, 0, 1])).mono ?_); rintro e w3 ⟨v3, rfl, rfl, hB0⟩; have hB := SatL.tail (hB0.bring [2, 1, 0]); clear hA hB0))
  go_ret
  exact Ret.mk ⟨rfl, hB⟩

set_option maxRecDepth 100000 in
set_option maxHeartbeats 8000000 in
theorem done_want {sv : Value} {nn : Int} (ok : LogInv s) (hsv : ∃ a n c, sv = .slice a n c) (h : SatL w (LogR pb s :: RefR xb s :: L)) :
    Calls Try.prog 33 #[.pointer (some ⟨pb, 0, none⟩), .pointer (some ⟨xb, 0, none⟩), .agg #[.int .i64 3, .int .i64 nn, sv]] w
      (Ret fun r w' => r = .bool true ∧ SatL w' (LogR pb s.wanted :: RefR xb s.wanted :: L)) := by
  obtain ⟨a, n, c, rfl⟩ := hsv
  have h1 := h.alloc (.cells #[.int .i64 3, .int .i64 nn, .slice a n c] 74)
  have c0 := SatL.cell h1 (i := 0) (v := .int .i64 3) rfl
  have hst := want_ok (h1.bring [1, 0, 2]) ok.told ok.few ok.data
  have hrs := fun (w' : World) (L' : List HP) (h : SatL w' (RefR xb s :: L')) => refwant_ok ok.told ok.don ok.few h
  generalize s.wanted = s' at *
  generalize s.R.drop s.told = R at *
  have Hst := hid hst
  have Hrs := hid hrs
  clear h h1 hst hrs
  go_enter Try.func33, Try.ntmps33
  go_wp2_with (first
    | (go_at_call 30; (with_reducible refine Hst.out.mono ?_); rintro e w2 ⟨v2, rfl, hA0⟩; obtain ⟨ps, hps, hA⟩ := sat_ReqsL.1 hA0; have Hps := hid hps; clear hA0 hps)
    | (go_at_call 63; (with_reducible refine (Hrs.out _ _ (hA.bring [3, 0, 1, 2])).mono ?_); rintro e w3 ⟨v3, rfl, hB0⟩; obtain ⟨qs, hqs, hB1⟩ := sat_ReqsL.1 hB0; have He := hid (Hps.out.trans hqs.symm); have hB := hB1.bring [2, 0, 1, 3, 4]; clear hA hB0 hB1 hqs)
    | (go_at_call 62; (with_reducible refine (samereqs_ok He.out hB).mono ?_); rintro e w4 ⟨v4, rfl, rfl, hC0⟩; have hC := SatL.tail (SatL.tail (SatL.tail (hC0.bring [0, 1, 4, 3, 2]))); clear hC0 hB))
  go_ret
  exact Ret.mk ⟨rfl, hC⟩

set_option maxRecDepth 100000 in
set_option maxHeartbeats 8000000 in
theorem done_did {sv : Value} {kd nn : Int} (h1' : ¬ kd = 1) (h2' : ¬ kd = 2) (h3' : ¬ kd = 3) (hnn : -9223372036854775808 ≤ nn ∧ nn ≤ 9223372036854775807) (ok : LogInv s) (hsv : ∃ a n c, sv = .slice a n c) (h : SatL w (LogR pb s :: RefR xb s :: L)) :
    Calls Try.prog 33 #[.pointer (some ⟨pb, 0, none⟩), .pointer (some ⟨xb, 0, none⟩), .agg #[.int .i64 kd, .int .i64 nn, sv]] w
      (Ret fun r w' => r = .bool true ∧ SatL w' (LogR pb (s.didS nn).2 :: RefR xb (s.didS nn).2 :: L)) := by
  obtain ⟨a, n, c, rfl⟩ := hsv
  have h1 := h.alloc (.cells #[.int .i64 kd, .int .i64 nn, .slice a n c] 74)
  have c0 := SatL.cell h1 (i := 0) (v := .int .i64 kd) rfl
  have hA := sat_drew.2 (h1.bring [1, 2, 0])
  have c1 := SatL.cell (hA.pull 2 : SatL _ (cl _ _ _ :: _)) (i := 1) (v := .int .i64 nn) rfl
  have hst := fun (w' : World) (L' : List HP) (h : SatL w' (LogR pb s :: L')) => did_ok ok hnn h
  have hrs := fun (w' : World) (L' : List HP) (h : SatL w' (RefR xb s :: L')) => refdid_ok ok hnn h
  generalize s.didS nn = J at *
  obtain ⟨j1, s'⟩ := J
  simp only at hst hrs ⊢
  have hA2 := hst _ _ hA
  have hB2 := hrs _ _ (hA.bring [1, 0, 2])
  have Hst := hid hst
  have Hrs := hid hrs
  clear h h1 hst hrs
  go_enter Try.func33, Try.ntmps33
  go_wp2
  go_region_held3 (fun w' => w'.cell? ⟨w.heap.size, 1, none⟩ = some (.int .i64 nn)) (first | with_reducible exact c1 | with_reducible exact m2 | with_reducible exact m3 | go_keep) (first
    | (go_at_call 29; first
        | ((with_reducible refine hA2.mono ?_); rintro e w2 ⟨v2, rfl, rfl, hC⟩; have m2 := SatL.cell (hC.pull 2 : SatL w2 (cl _ _ _ :: _)) (i := 1) (v := .int .i64 nn) rfl; have hC2 := Hrs.out _ _ (hC.bring [1, 0, 2]))
        | ((with_reducible refine hD2.mono ?_); rintro e w3 ⟨v3, rfl, rfl, hZ⟩; have m3 := SatL.cell (hZ.pull 2 : SatL w3 (cl _ _ _ :: _)) (i := 1) (v := .int .i64 nn) rfl; have hF := SatL.tail (hZ.bring [2, 0, 1])))
    | (go_at_call 64; first
        | ((with_reducible refine hC2.mono ?_); rintro e w3 ⟨v3, rfl, rfl, hZ⟩; have m3 := SatL.cell (hZ.pull 2 : SatL w3 (cl _ _ _ :: _)) (i := 1) (v := .int .i64 nn) rfl; have hF := SatL.tail (hZ.bring [2, 1, 0]))
        | ((with_reducible refine hB2.mono ?_); rintro e w2 ⟨v2, rfl, rfl, hC⟩; have m2 := SatL.cell (hC.pull 2 : SatL w2 (cl _ _ _ :: _)) (i := 1) (v := .int .i64 nn) rfl; have hD2 := Hst.out _ _ (hC.bring [1, 0, 2])))
    | fail "no")
  all_goals
    go_wp2
    go_ret
    exact Ret.mk ⟨rfl, hF⟩

theorem done_ok {a : Option Addr} {n c : Nat} {A S : Nat → Int} {B : Nat → Nat} {kd nn : Int} (hB : ∀ i, B i < 256) (hn : n ≤ 100) (hnn : -9223372036854775808 ≤ nn ∧ nn ≤ 9223372036854775807) (ok : LogInv s) (hm : s.number + 1 ≤ 4611686018427387904) (h : SatL w (LogR pb s :: RefR xb s :: L)) (g : Gives L (BlkRow a n A S B)) :
    Calls Try.prog 33 #[.pointer (some ⟨pb, 0, none⟩), .pointer (some ⟨xb, 0, none⟩), .agg #[.int .i64 kd, .int .i64 nn, .slice a n c]] w
      (Ret fun r w' => r = .bool true ∧ ∃ s' : LogS, LogInv s' ∧ s'.number ≤ s.number + 1 ∧ SatL w' (LogR pb s' :: RefR xb s' :: L)) := by
  have hf : Fit s.L ∧ Fit s.N := by obtain ⟨_, _, _, _, _, hf, _⟩ := sat_LogR.1 h; exact hf
  have hnd := (LogR.nodup h).1
  by_cases h1 : kd = 1
  · subst h1
    refine (done_join hB hn h g).mono ?_
    rintro e w' ⟨v, rfl, rfl, hs⟩
    exact ⟨_, rfl, rfl, _, inv_join ok _, by rw [num_join]; omega, hs⟩
  by_cases h2 : kd = 2
  · subst h2
    refine (done_start ok ⟨_, _, _, rfl⟩ h).mono ?_
    rintro e w' ⟨v, rfl, rfl, hs⟩
    exact ⟨_, rfl, rfl, _, inv_start ok hf.1 hnd hm, num_start, hs⟩
  by_cases h3 : kd = 3
  · subst h3
    refine (done_want ok ⟨_, _, _, rfl⟩ h).mono ?_
    rintro e w' ⟨v, rfl, rfl, hs⟩
    exact ⟨_, rfl, rfl, _, inv_want ok, Nat.le_succ _, hs⟩
  refine (done_did h1 h2 h3 hnn ok ⟨_, _, _, rfl⟩ h).mono ?_
  rintro e w' ⟨v, rfl, rfl, hs⟩
  exact ⟨_, rfl, rfl, _, inv_did ok hf.2, by rw [num_did]; omega, hs⟩
end
end Go.Proofs.Ytjjnadlklfegcaa

namespace Go.Proofs.Ytjjnadlklfegcaa
set_option linter.unusedVariables false
set_option linter.unusedSimpArgs false
open Go.RowKit
section
variable {P : Program} {ops : Array Oper} {Q : Exit → Act → World → Prop} {md : Region.Mode} {S : World → Prop} {m : Nat} {l : List Oper}
theorem AnyE.mono {S' : World → Prop} (hS : ∀ w, S' w → S w) : ∀ (n : Nat) (li : Array Bool) (a : Act) (w : World), AnyE P md ops Q S' m n li a w → AnyE P md ops Q S m n li a w
  | 0, _, _, _, h => h
  | n + 1, _, _, _, h => ⟨h.1, fun i hi => wpOp_mono (fun a' w' k => ⟨fun e => hS _ (k.1 e), AnyE.mono hS n _ a' w' k.2⟩) (h.2 i hi)⟩
/-- from here on more is held -/
theorem GoE.more {n : Nat} {li : Array Bool} {a : Act} {w : World} (S' : World → Prop) (hS : ∀ w, S' w → S w) (h : GoE P md l Q S' m n li a w) : GoE P md l Q S m n li a w := fun hc => AnyE.mono hS _ _ _ _ (h hc)
end
section
variable {w : World} {L : List HP} {pb xb : Nat} {s : LogS}
theorem phase_eq (h : SatL w (LogR pb s :: L)) : Calls Try.prog 27 #[.pointer (some ⟨pb, 0, none⟩)] w (Ret fun r w' => r = .int .i64 s.phase ∧ w = w') := by
  obtain ⟨lv, m, nv, mv, rv, hf, h1⟩ := sat_LogR.1 h
  have c0 : w.cell? ⟨pb, 4, none⟩ = some (.int .i64 s.phase) := h1.cell (i := 4) rfl
  clear h1
  go_enter Try.func27, Try.ntmps27
  go_wp2
  go_ret
  exact Ret.mk ⟨rfl, rfl⟩
theorem durable_eq (h : SatL w (LogR pb s :: L)) : Calls Try.prog 31 #[.pointer (some ⟨pb, 0, none⟩)] w (Ret fun r w' => r = .int .i64 s.durable ∧ w = w') := by
  obtain ⟨lv, m, nv, mv, rv, hf, h1⟩ := sat_LogR.1 h
  have c0 : w.cell? ⟨pb, 11, none⟩ = some (.int .i64 s.durable) := h1.cell (i := 11) rfl
  clear h1
  go_enter Try.func31, Try.ntmps31
  go_wp2
  go_ret
  exact Ret.mk ⟨rfl, rfl⟩
theorem open_eq (h : SatL w (LogR pb s :: L)) : Calls Try.prog 25 #[.pointer (some ⟨pb, 0, none⟩)] w (Ret fun r w' => r = .int .i64 s.L.length ∧ w = w') := by
  obtain ⟨lv, m, nv, mv, rv, hf, h1⟩ := sat_LogR.1 h
  obtain ⟨a, c, rfl, q1, q2⟩ := PutsL.valn (SatL.pull h1 1 : SatL w (PutsL _ _ :: _))
  have c0 : w.cell? ⟨pb, 0, none⟩ = some (.slice a s.L.length c) := h1.cell (i := 0) rfl
  clear h1
  go_enter Try.func25, Try.ntmps25
  go_wp2
  go_ret
  exact Ret.mk ⟨rfl, rfl⟩
/-- what the document's log tells at a glance -/
theorem ref_cells (h : SatL w (RefR xb s :: L)) : w.cell? ⟨xb, 5, none⟩ = some (.int .i64 s.phase) ∧ w.cell? ⟨xb, 8, none⟩ = some (.int .i64 s.durable) ∧ ∃ a c, w.cell? ⟨xb, 3, none⟩ = some (.slice a s.L.length c) := by
  obtain ⟨lv, nv, rv, hf, h1⟩ := sat_RefR.1 h
  obtain ⟨a, c, rfl, q1, q2⟩ := PutsL.valn (SatL.pull h1 1 : SatL w (PutsL _ _ :: _))
  exact ⟨h1.cell (i := 5) rfl, h1.cell (i := 8) rfl, a, c, h1.cell (i := 3) rfl⟩

set_option maxRecDepth 100000 in
set_option maxHeartbeats 16000000 in
theorem plays_walk (a0 : Int) (q : Nat) (a2 : Option Addr) (n2 c2 : Nat) (K N : Nat → Int) (aa : Nat → Option Addr) (ll cc : Nat → Nat) (A S : Nat → Nat → Int) (B : Nat → Nat → Nat) (w : World)
    (ha0 : -9223372036854775808 ≤ a0 ∧ a0 ≤ 9223372036854775807) (hq : q < 18446744073709551616)
    (hK : IsRow w 3 a2 n2 (fun i => [.int .i64 (K i), .int .i64 (N i), .slice (aa i) (ll i) (cc i)])) (hN : ∀ i, i < n2 → -9223372036854775808 ≤ N i ∧ N i ≤ 9223372036854775807)
    (hR : ∀ i, i < n2 → BlkRow (aa i) (ll i) (A i) (S i) (B i) w) (hB : ∀ i k, B i k < 256) :
    Calls Try.prog 8 #[.int .i64 a0, .int .u64 q, .slice a2 n2 c2] w (Ret fun v w' => v = .bool true ∧ SatL w' [old w]) := by
  have hk := known_ok (sat_old w)
  by_cases hneg : a0 < 0
  · have hn1 := fun (w' : World) (h : SatL w' [old w]) => new_no (seq := q) hneg h
    have hn2 := fun (w' : World) (h : SatL w' [old w]) => refnew_no (seq := q) hneg h
    have Hn1 := hid hn1
    have Hn2 := hid hn2
    clear hn1 hn2 hK hN hR hB
    go_enter Try.func8, Try.ntmps8
    go_wp2_with (first
      | (go_at_call 11; (with_reducible refine hk.mono ?_); rintro e w1 ⟨v, rfl, rfl, h1⟩)
      | (go_at_call 22; (with_reducible refine (Hn1.out _ h1).mono ?_); rintro e w2 ⟨r, rfl, rfl, h2⟩)
      | (go_at_call 32; (with_reducible refine (Hn2.out _ h2).mono ?_); rintro e w3 ⟨r, rfl, rfl, h3⟩))
    go_ret
    exact Ret.mk ⟨rfl, h3⟩
  have hpos : 0 ≤ a0 := by omega
  have Hn1 := hid (fun (w' : World) (h : SatL w' [old w]) => new_ok (seq := q) hpos h)
  have Hn2 := hid (fun (w' : World) (L' : List HP) (h : SatL w' L') => refnew_ok (seq := q) hpos h)
  by_cases hbig : 1099511627776 < a0
  · clear hK hN hR hB
    go_enter Try.func8, Try.ntmps8
    go_wp2_with (first
      | (go_at_call 11; (with_reducible refine hk.mono ?_); rintro e w1 ⟨v, rfl, rfl, h1⟩)
      | (go_at_call 22; (with_reducible refine (Hn1.out _ h1).mono ?_); rintro e w2 ⟨r, rfl, pb, rfl, h2⟩)
      | (go_at_call 32; (with_reducible refine (Hn2.out _ _ h2).mono ?_); rintro e w3 ⟨r, rfl, xb, rfl, h3⟩))
    go_ret
    exact Ret.mk ⟨rfl, h3.tail.tail⟩
  have hst : 0 ≤ a0 ∧ a0 ≤ 4611686018427387904 := by omega
  have HgK := hid (gives_row (L := []) hK)
  have HgR := hid (fun i (hi : i < n2) => gives_row (L := []) (hR i hi))
  have HB := hid hB
  have HN := hid hN
  have Hnew := hid (inv_new hq hst)
  have Hst := hid hst
  clear hK hN hR hB hst ha0
  go_enter Try.func8, Try.ntmps8
  go_wp2_with (first
    | (go_at_call 11; (with_reducible refine hk.mono ?_); rintro e w1 ⟨v, rfl, rfl, h1⟩)
    | (go_at_call 22; (with_reducible refine (Hn1.out _ h1).mono ?_); rintro e w2 ⟨r, rfl, pb, rfl, h2⟩)
    | (go_at_call 32; (with_reducible refine (Hn2.out _ _ h2).mono ?_); rintro e w3 ⟨r, rfl, xb, rfl, h3⟩))
  go_loopw [11] (fun i wr => ∃ (j : Nat) (s : LogS), j ≤ n2 ∧ j ≤ 100 ∧ i = .int .i64 j ∧ LogInv s ∧ s.number ≤ j + 1 ∧ SatL wr (LogR pb s :: RefR xb s :: [old w])) (fun i _ => n2 - (intOf i).toNat)
  case atStart => exact ⟨0, _, by omega, by omega, rfl, Hnew.out, Nat.le_refl _, h3.swap⟩
  case round =>
    clear h3 Hnew hk Hn1 Hn2 hneg hpos hbig
    obtain ⟨j, s, hj, hj1, rfl, ok, hm, hs⟩ := hrel
    have Ok := hid ok
    clear ok
    by_cases hlt : j < n2
    · by_cases h100 : j < 100
      · obtain ⟨b, off, rfl, hx⟩ := (HgK.out wr hs.tail.tail).2 (by omega)
        clear hx
        have hcl := fun (w' : World) (h : SatL w' [old w]) => (by
          obtain ⟨_, hc⟩ := HgK.out w' h
          obtain ⟨b', off', e, hc⟩ := hc (by omega)
          cases e
          have d0 := (hc j hlt).2 0 _ rfl
          rw [Nat.add_zero] at d0
          exact ⟨d0, (hc j hlt).2 1 _ rfl, (hc j hlt).2 2 _ rfl⟩ : w'.cell? ⟨b, off + j * 3, none⟩ = some (.int .i64 (K j)) ∧ w'.cell? ⟨b, off + j * 3 + 1, none⟩ = some (.int .i64 (N j)) ∧ w'.cell? ⟨b, off + j * 3 + 2, none⟩ = some (.slice (aa j) (ll j) (cc j)))
        have hnn := HN.out j hlt
        have hgr := HgR.out j hlt
        have hbb := HB.out j
        generalize K j = kd at *
        generalize N j = nn at *
        generalize aa j = ai at *
        generalize ll j = li at *
        generalize cc j = ci at *
        generalize A j = Ai at *
        generalize S j = Si at *
        generalize B j = Bi at *
        have Hcl := hid hcl
        have Hgr := hid hgr
        have Hbb := hid hbb
        have Hnn := hid hnn
        clear hcl hgr hbb hnn
        obtain ⟨d0, d1, d2⟩ := Hcl.out _ hs.tail.tail
        by_cases hbig : 100 < li
        · go_wp2
          go_roundw
          case rel => exact ⟨j + 1, s, by omega, by omega, by go_num, Ok.out, by omega, hs⟩
          case measure => simp [intOf]; omega
        have hs1 := sat_drew.2 hs
        obtain ⟨e0, e1, e2⟩ := Hcl.out _ hs1.tail.tail
        have hdn := done_ok (c := ci) (kd := kd) Hbb.out (by omega) Hnn.out Ok.out (by omega) hs1 Hgr.out
        go_upto_region 15 with fail
        go_cut [97] from 45 to 149 (fun v97 w' => v97 = .bool false ∧ ∃ s' : LogS, LogInv s' ∧ s'.number ≤ j + 2 ∧ SatL w' (LogR pb s' :: RefR xb s' :: [old w]))
        case first =>
          refine GoE.start (fun w' => w'.cell? ⟨b, off + j * 3, none⟩ = some (.int .i64 kd) ∧ w'.cell? ⟨b, off + j * 3 + 1, none⟩ = some (.int .i64 nn) ∧ w'.cell? ⟨b, off + j * 3 + 2, none⟩ = some (.slice ai li ci)) 35 36 rfl (by kernel_rfl) ?_
          have S0 := And.intro e0 (And.intro e1 e2)
          refine GoE.take (i := 0) (v := ?_) rfl (by decide) (by kernel_rfl) (by kernel_rfl) (by kernel_rfl) (by kernel_rfl) (fun _ _ _ h => h) (by rfl) ?_ (by assumption) ?_
          rotate_left
          · intro w hSw; (try dsimp only at hSw); go_simp; try (with_reducible rfl)
          try simp only [Act.put, List.setIfInBounds_toArray, List.set_cons_zero, List.set_cons_succ]
          refine GoE.take (i := 1) (v := ?_) rfl (by decide) (by kernel_rfl) (by kernel_rfl) (by kernel_rfl) (by kernel_rfl) (fun _ _ _ h => h) (by rfl) ?_ (by assumption) ?_
          rotate_left
          · intro w hSw; (try dsimp only at hSw); go_simp; try (with_reducible rfl)
          try simp only [Act.put, List.setIfInBounds_toArray, List.set_cons_zero, List.set_cons_succ]
          refine GoE.take (i := 2) (v := ?_) rfl (by decide) (by kernel_rfl) (by kernel_rfl) (by kernel_rfl) (by kernel_rfl) (fun _ _ _ h => h) (by rfl) ?_ (by assumption) ?_
          rotate_left
          · intro w hSw; (try dsimp only at hSw); go_simp; try (with_reducible rfl)
          try simp only [Act.put, List.setIfInBounds_toArray, List.set_cons_zero, List.set_cons_succ]
          refine GoE.take (i := 3) (v := ?_) rfl (by decide) (by kernel_rfl) (by kernel_rfl) (by kernel_rfl) (by kernel_rfl) (fun _ _ _ h => h) (by rfl) ?_ (by assumption) ?_
          rotate_left
          · intro w hSw; (try dsimp only at hSw); go_simp; try (with_reducible rfl)
          try simp only [Act.put, List.setIfInBounds_toArray, List.set_cons_zero, List.set_cons_succ]
          refine GoE.take (i := 4) (v := ?_) rfl (by decide) (by kernel_rfl) (by kernel_rfl) (by kernel_rfl) (by kernel_rfl) (fun _ _ _ h => h) (by rfl) ?_ (by assumption) ?_
          rotate_left
          · intro w hSw; (try dsimp only at hSw); go_simp; try (with_reducible rfl)
          try simp only [Act.put, List.setIfInBounds_toArray, List.set_cons_zero, List.set_cons_succ]
          refine GoE.take (i := 5) (v := ?_) rfl (by decide) (by kernel_rfl) (by kernel_rfl) (by kernel_rfl) (by kernel_rfl) (fun _ _ _ h => h) (by rfl) ?_ (by assumption) ?_
          rotate_left
          · intro w hSw; (try dsimp only at hSw); go_simp; try (with_reducible rfl)
          try simp only [Act.put, List.setIfInBounds_toArray, List.set_cons_zero, List.set_cons_succ]
          refine GoE.one (i := 6) rfl (by kernel_rfl) (fun K hK => ?_)
          go_simp
          go_at_call 33
          (with_reducible refine hdn.mono ?_)
          rintro e w' ⟨v, rfl, rfl, s', ok', hm', h4⟩
          have Ok' := hid ok'
          clear ok'
          obtain ⟨x5, x8, xa, xc, x3⟩ := ref_cells (h4.pull 1 : SatL w' (RefR _ _ :: _))
          have hp4 := phase_eq h4
          have hd4 := durable_eq h4
          have ho4 := open_eq h4
          have S4 := Hcl.out _ h4.tail.tail
          go_wp2_with fail
          refine hK.out _ _ (fun _ => S4) ?_
          clear hK K
          try simp only [Act.put, List.setIfInBounds_toArray, List.set_cons_zero, List.set_cons_succ]
          refine GoE.more (fun w' => w'.cell? ⟨xb, 5, none⟩ = some (.int .i64 s'.phase) ∧ w'.cell? ⟨xb, 8, none⟩ = some (.int .i64 s'.durable) ∧ w'.cell? ⟨xb, 3, none⟩ = some (.slice xa s'.L.length xc) ∧ w'.cell? ⟨b, off + j * 3, none⟩ = some (.int .i64 kd) ∧ w'.cell? ⟨b, off + j * 3 + 1, none⟩ = some (.int .i64 nn) ∧ w'.cell? ⟨b, off + j * 3 + 2, none⟩ = some (.slice ai li ci)) (fun w h => h.2.2.2) ?_
          have S5 := And.intro x5 (And.intro x8 (And.intro x3 S4))
          refine GoE.take (i := 7) (v := ?_) rfl (by decide) (by kernel_rfl) (by kernel_rfl) (by kernel_rfl) (by kernel_rfl) (fun _ _ _ h => h) (by rfl) ?_ (by assumption) ?_
          rotate_left
          · intro w hSw; (try dsimp only at hSw); go_simp; try (with_reducible rfl)
          try simp only [Act.put, List.setIfInBounds_toArray, List.set_cons_zero, List.set_cons_succ]
          refine GoE.take (i := 8) (v := ?_) rfl (by decide) (by kernel_rfl) (by kernel_rfl) (by kernel_rfl) (by kernel_rfl) (fun _ _ _ h => h) (by rfl) ?_ (by assumption) ?_
          rotate_left
          · intro w hSw; (try dsimp only at hSw); go_simp; try (with_reducible rfl)
          try simp only [Act.put, List.setIfInBounds_toArray, List.set_cons_zero, List.set_cons_succ]
          refine GoE.take (i := 9) (v := ?_) rfl (by decide) (by kernel_rfl) (by kernel_rfl) (by kernel_rfl) (by kernel_rfl) (fun _ _ _ h => h) (by rfl) ?_ (by assumption) ?_
          rotate_left
          · intro w hSw; (try dsimp only at hSw); go_simp; try (with_reducible rfl)
          try simp only [Act.put, List.setIfInBounds_toArray, List.set_cons_zero, List.set_cons_succ]
          refine GoE.take (i := 11) (v := ?_) rfl (by decide) (by kernel_rfl) (by kernel_rfl) (by kernel_rfl) (by kernel_rfl) (fun _ _ _ h => h) (by rfl) ?_ (by assumption) ?_
          rotate_left
          · intro w hSw; (try dsimp only at hSw); go_simp; try (with_reducible rfl)
          try simp only [Act.put, List.setIfInBounds_toArray, List.set_cons_zero, List.set_cons_succ]
          refine GoE.take (i := 12) (v := ?_) rfl (by decide) (by kernel_rfl) (by kernel_rfl) (by kernel_rfl) (by kernel_rfl) (fun _ _ _ h => h) (by rfl) ?_ (by assumption) ?_
          rotate_left
          · intro w hSw; (try dsimp only at hSw); go_simp; try (with_reducible rfl)
          try simp only [Act.put, List.setIfInBounds_toArray, List.set_cons_zero, List.set_cons_succ]
          refine GoE.take (i := 13) (v := ?_) rfl (by decide) (by kernel_rfl) (by kernel_rfl) (by kernel_rfl) (by kernel_rfl) (fun _ _ _ h => h) (by rfl) ?_ (by assumption) ?_
          rotate_left
          · intro w hSw; (try dsimp only at hSw); go_simp; try (with_reducible rfl)
          try simp only [Act.put, List.setIfInBounds_toArray, List.set_cons_zero, List.set_cons_succ]
          refine GoE.take (i := 14) (v := ?_) rfl (by decide) (by kernel_rfl) (by kernel_rfl) (by kernel_rfl) (by kernel_rfl) (fun _ _ _ h => h) (by rfl) ?_ (by assumption) ?_
          rotate_left
          · intro w hSw; (try dsimp only at hSw); go_simp; try (with_reducible rfl)
          try simp only [Act.put, List.setIfInBounds_toArray, List.set_cons_zero, List.set_cons_succ]
          refine GoE.one (i := 10) rfl (by kernel_rfl) (fun K hK => ?_)
          go_simp
          go_at_call 27
          (with_reducible refine hp4.mono ?_)
          rintro e w' ⟨v, rfl, rfl, rfl⟩
          go_wp2_with fail
          refine hK.out _ _ (fun _ => S5) ?_
          clear hK K
          try simp only [Act.put, List.setIfInBounds_toArray, List.set_cons_zero, List.set_cons_succ]
          refine GoE.take (i := 15) (v := ?_) rfl (by decide) (by kernel_rfl) (by kernel_rfl) (by kernel_rfl) (by kernel_rfl) (fun _ _ _ h => h) (by rfl) ?_ (by assumption) ?_
          rotate_left
          · intro w hSw; (try dsimp only at hSw); go_simp; try (with_reducible rfl)
          try simp only [Act.put, List.setIfInBounds_toArray, List.set_cons_zero, List.set_cons_succ]
          refine GoE.take (i := 16) (v := ?_) rfl (by decide) (by kernel_rfl) (by kernel_rfl) (by kernel_rfl) (by kernel_rfl) (fun _ _ _ h => h) (by rfl) ?_ (by assumption) ?_
          rotate_left
          · intro w hSw; (try dsimp only at hSw); go_simp; try (with_reducible rfl)
          try simp only [Act.put, List.setIfInBounds_toArray, List.set_cons_zero, List.set_cons_succ]
          refine GoE.take (i := 17) (v := ?_) rfl (by decide) (by kernel_rfl) (by kernel_rfl) (by kernel_rfl) (by kernel_rfl) (fun _ _ _ h => h) (by rfl) ?_ (by assumption) ?_
          rotate_left
          · intro w hSw; (try dsimp only at hSw); go_simp; try (with_reducible rfl)
          try simp only [Act.put, List.setIfInBounds_toArray, List.set_cons_zero, List.set_cons_succ]
          refine GoE.take (i := 18) (v := ?_) rfl (by decide) (by kernel_rfl) (by kernel_rfl) (by kernel_rfl) (by kernel_rfl) (fun _ _ _ h => h) (by rfl) ?_ (by assumption) ?_
          rotate_left
          · intro w hSw; (try dsimp only at hSw); go_simp; try (with_reducible rfl)
          try simp only [Act.put, List.setIfInBounds_toArray, List.set_cons_zero, List.set_cons_succ]
          refine GoE.take (i := 20) (v := ?_) rfl (by decide) (by kernel_rfl) (by kernel_rfl) (by kernel_rfl) (by kernel_rfl) (fun _ _ _ h => h) (by rfl) ?_ (by assumption) ?_
          rotate_left
          · intro w hSw; (try dsimp only at hSw); go_simp; try (with_reducible rfl)
          try simp only [Act.put, List.setIfInBounds_toArray, List.set_cons_zero, List.set_cons_succ]
          refine GoE.take (i := 21) (v := ?_) rfl (by decide) (by kernel_rfl) (by kernel_rfl) (by kernel_rfl) (by kernel_rfl) (fun _ _ _ h => h) (by rfl) ?_ (by assumption) ?_
          rotate_left
          · intro w hSw; (try dsimp only at hSw); go_simp; try (with_reducible rfl)
          try simp only [Act.put, List.setIfInBounds_toArray, List.set_cons_zero, List.set_cons_succ]
          refine GoE.take (i := 22) (v := ?_) rfl (by decide) (by kernel_rfl) (by kernel_rfl) (by kernel_rfl) (by kernel_rfl) (fun _ _ _ h => h) (by rfl) ?_ (by assumption) ?_
          rotate_left
          · intro w hSw; (try dsimp only at hSw); go_simp; try (with_reducible rfl)
          try simp only [Act.put, List.setIfInBounds_toArray, List.set_cons_zero, List.set_cons_succ]
          refine GoE.take (i := 23) (v := ?_) rfl (by decide) (by kernel_rfl) (by kernel_rfl) (by kernel_rfl) (by kernel_rfl) (fun _ _ _ h => h) (by rfl) ?_ (by assumption) ?_
          rotate_left
          · intro w hSw; (try dsimp only at hSw); go_simp; try (with_reducible rfl)
          try simp only [Act.put, List.setIfInBounds_toArray, List.set_cons_zero, List.set_cons_succ]
          refine GoE.one (i := 19) rfl (by kernel_rfl) (fun K hK => ?_)
          go_simp
          go_at_call 31
          (with_reducible refine hd4.mono ?_)
          rintro e w' ⟨v, rfl, rfl, rfl⟩
          go_wp2_with fail
          refine hK.out _ _ (fun _ => S5) ?_
          clear hK K
          try simp only [Act.put, List.setIfInBounds_toArray, List.set_cons_zero, List.set_cons_succ]
          refine GoE.take (i := 24) (v := ?_) rfl (by decide) (by kernel_rfl) (by kernel_rfl) (by kernel_rfl) (by kernel_rfl) (fun _ _ _ h => h) (by rfl) ?_ (by assumption) ?_
          rotate_left
          · intro w hSw; (try dsimp only at hSw); go_simp; try (with_reducible rfl)
          try simp only [Act.put, List.setIfInBounds_toArray, List.set_cons_zero, List.set_cons_succ]
          refine GoE.take (i := 25) (v := ?_) rfl (by decide) (by kernel_rfl) (by kernel_rfl) (by kernel_rfl) (by kernel_rfl) (fun _ _ _ h => h) (by rfl) ?_ (by assumption) ?_
          rotate_left
          · intro w hSw; (try dsimp only at hSw); go_simp; try (with_reducible rfl)
          try simp only [Act.put, List.setIfInBounds_toArray, List.set_cons_zero, List.set_cons_succ]
          refine GoE.take (i := 26) (v := ?_) rfl (by decide) (by kernel_rfl) (by kernel_rfl) (by kernel_rfl) (by kernel_rfl) (fun _ _ _ h => h) (by rfl) ?_ (by assumption) ?_
          rotate_left
          · intro w hSw; (try dsimp only at hSw); go_simp; try (with_reducible rfl)
          try simp only [Act.put, List.setIfInBounds_toArray, List.set_cons_zero, List.set_cons_succ]
          refine GoE.take (i := 27) (v := ?_) rfl (by decide) (by kernel_rfl) (by kernel_rfl) (by kernel_rfl) (by kernel_rfl) (fun _ _ _ h => h) (by rfl) ?_ (by assumption) ?_
          rotate_left
          · intro w hSw; (try dsimp only at hSw); go_simp; try (with_reducible rfl)
          try simp only [Act.put, List.setIfInBounds_toArray, List.set_cons_zero, List.set_cons_succ]
          refine GoE.take (i := 29) (v := ?_) rfl (by decide) (by kernel_rfl) (by kernel_rfl) (by kernel_rfl) (by kernel_rfl) (fun _ _ _ h => h) (by rfl) ?_ (by assumption) ?_
          rotate_left
          · intro w hSw; (try dsimp only at hSw); go_simp; try (with_reducible rfl)
          try simp only [Act.put, List.setIfInBounds_toArray, List.set_cons_zero, List.set_cons_succ]
          refine GoE.take (i := 30) (v := ?_) rfl (by decide) (by kernel_rfl) (by kernel_rfl) (by kernel_rfl) (by kernel_rfl) (fun _ _ _ h => h) (by rfl) ?_ (by assumption) ?_
          rotate_left
          · intro w hSw; (try dsimp only at hSw); go_simp; try (with_reducible rfl)
          try simp only [Act.put, List.setIfInBounds_toArray, List.set_cons_zero, List.set_cons_succ]
          refine GoE.take (i := 31) (v := ?_) rfl (by decide) (by kernel_rfl) (by kernel_rfl) (by kernel_rfl) (by kernel_rfl) (fun _ _ _ h => h) (by rfl) ?_ (by assumption) ?_
          rotate_left
          · intro w hSw; (try dsimp only at hSw); go_simp; try (with_reducible rfl)
          try simp only [Act.put, List.setIfInBounds_toArray, List.set_cons_zero, List.set_cons_succ]
          refine GoE.take (i := 32) (v := ?_) rfl (by decide) (by kernel_rfl) (by kernel_rfl) (by kernel_rfl) (by kernel_rfl) (fun _ _ _ h => h) (by rfl) ?_ (by assumption) ?_
          rotate_left
          · intro w hSw; (try dsimp only at hSw); go_simp; try (with_reducible rfl)
          try simp only [Act.put, List.setIfInBounds_toArray, List.set_cons_zero, List.set_cons_succ]
          refine GoE.take (i := 33) (v := ?_) rfl (by decide) (by kernel_rfl) (by kernel_rfl) (by kernel_rfl) (by kernel_rfl) (fun _ _ _ h => h) (by rfl) ?_ (by assumption) ?_
          rotate_left
          · intro w hSw; (try dsimp only at hSw); go_simp; try (with_reducible rfl)
          try simp only [Act.put, List.setIfInBounds_toArray, List.set_cons_zero, List.set_cons_succ]
          refine GoE.one (i := 28) rfl (by kernel_rfl) (fun K hK => ?_)
          go_simp
          go_at_call 25
          (with_reducible refine ho4.mono ?_)
          rintro e w' ⟨v, rfl, rfl, rfl⟩
          go_wp2_with fail
          refine hK.out _ _ (fun _ => S5) ?_
          clear hK K
          try simp only [Act.put, List.setIfInBounds_toArray, List.set_cons_zero, List.set_cons_succ]
          refine GoE.take (i := 34) (v := ?_) rfl (by decide) (by kernel_rfl) (by kernel_rfl) (by kernel_rfl) (by kernel_rfl) (fun _ _ _ h => h) (by rfl) ?_ (by assumption) ?_
          rotate_left
          · intro w hSw; (try dsimp only at hSw); go_simp; try (with_reducible rfl)
          try simp only [Act.put, List.setIfInBounds_toArray, List.set_cons_zero, List.set_cons_succ]
          refine GoE.one (i := 35) rfl (by kernel_rfl) (fun K hK => ?_)
          go_simp
          refine hK.out _ _ (fun h => absurd rfl h) ?_
          clear hK K
          try simp only [Act.put, List.setIfInBounds_toArray, List.set_cons_zero, List.set_cons_succ]
          refine GoE.done (by kernel_rfl) ?_
          go_wp2
          go_meet
          exact ⟨rfl, s', Ok'.out, by omega, h4⟩
        case rest =>
          obtain ⟨rfl, s', ok', hm', h4⟩ := hcut
          have Ok' := hid ok'
          clear ok' hdn e0 e1 e2 hs1 d0 d1 d2 hs Ok hm
          go_wp2
          go_loopw [12] (fun i wr => ∃ k : Nat, k ≤ li ∧ i = .int .i64 k ∧ SatL wr (LogR pb s' :: RefR xb s' :: [old w])) (fun i _ => li - (intOf i).toNat)
          case atStart => exact ⟨0, by omega, rfl, h4⟩
          case round =>
            clear h4
            obtain ⟨k, hk, rfl, hs⟩ := hrel
            obtain ⟨d0, d1, d2⟩ := Hcl.out _ hs.tail.tail
            by_cases hkl : k < li
            · by_cases h4k : k < 4
              · obtain ⟨b2, o2, rfl, hx⟩ := (Hgr.out wr hs.tail.tail).2 (by omega)
                clear hx
                have hc2 := fun (w' : World) (h : SatL w' [old w]) => (by
                  obtain ⟨_, hc⟩ := Hgr.out w' h
                  obtain ⟨b', off', e, hc⟩ := hc (by omega)
                  cases e
                  have d0 := (hc k hkl).2 0 _ rfl
                  rw [Nat.add_zero] at d0
                  exact d0 : w'.cell? ⟨b2, o2 + k * 3, none⟩ = some (.int .i64 (Ai k)))
                have hf1 := find_ok (b := Ai k) hs
                generalize Ai k = ak at *
                have Hc2 := hid hc2
                clear hc2
                have g0 := Hc2.out _ hs.tail.tail
                go_wp2_with (first
                  | (go_at_call 28; (with_reducible refine hf1.mono ?_); rintro e w5 ⟨v5, rfl, va, rfl, h5⟩; obtain ⟨f0, f1, f2⟩ := Hcl.out _ h5.tail.tail.tail; have g1 := Hc2.out _ h5.tail.tail.tail; have hf2 := reffind_ok (b := ak) (h5.bring [2, 0, 1]))
                  | (go_at_call 34; (with_reducible refine hf2.mono ?_); rintro e w6 ⟨v6, rfl, vb, rfl, h6⟩; have y1 := RdB.conv (SlB.rd h6); have y2 := RdB.conv (SlB.rd (h6.pull 2 : SatL w6 (SlB _ _ _ :: _))); have h7 := SatL.tail (SatL.tail (h6.bring [0, 2, 3, 1])); clear hf2 h5))
                go_roundw
                case rel => exact ⟨k + 1, by omega, by go_num, h7⟩
                case measure => simp [intOf]; omega
              · go_wp2
                go_roundw
                case rel => exact ⟨j + 1, s', by omega, by omega, by go_num, Ok'.out, by omega, hs⟩
                case measure => simp [intOf]; omega
            · go_wp2
              go_roundw
              case rel => exact ⟨j + 1, s', by omega, by omega, by go_num, Ok'.out, by omega, hs⟩
              case measure => simp [intOf]; omega
      · obtain rfl : j = 100 := by omega
        go_wp2
        go_ret
        exact Ret.mk ⟨rfl, hs.tail.tail⟩
    · obtain rfl : j = n2 := by omega
      go_wp2
      go_ret
      exact Ret.mk ⟨rfl, hs.tail.tail⟩
end
end Go.Proofs.Ytjjnadlklfegcaa
