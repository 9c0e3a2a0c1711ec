/- The base of a new volume. -/
import Derived.Test.YtklnlomleiebaaaBase
import Derived.RegionTactic
import Derived.BigRegion
namespace Go.Proofs.Ytklnlomleiebaaa
set_option linter.unusedVariables false
set_option linter.unusedSimpArgs false
open Go.RowKit
section
variable {w : World} {L : List HP}
def mkRows (b i sec nsec : Nat) : List (Option (List UInt8)) := rowsOf b (mkfsL b i sec nsec)

abbrev MadeL (MB bb lb b : Nat) (pv : Value) (ps : List Pt) (j : Nat) (L : List HP) : List HP :=
  cl MB 64 #[.slice (some ⟨bb, 0, none⟩) b b, .slice (some ⟨lb, 0, none⟩) b b] :: RowsR (.slice (some ⟨bb, 0, none⟩) b b) (rowsOf b ((ps.map fun p => (p.b, p.d)).take j)) :: Sl 4 (.slice (some ⟨lb, 0, none⟩) b b) (bools (List.replicate b false)) :: SlK 66 2 pv ps.length (pcells ps) :: big (fun p : Pt => SlB 5 p.v p.d) (ps.drop j) :: L
theorem mkFin {b bb lb : Nat} {pv : Value} {ps : List Pt}
    (h : SatL w (Sl 42 (.slice (some ⟨bb, 0, none⟩) b b) (List.replicate b (.slice none 0 0)) :: Sl 4 (.slice (some ⟨lb, 0, none⟩) b b) (List.replicate b (.bool false)) :: SlK 66 2 pv ps.length (pcells ps) :: big (fun p : Pt => SlB 5 p.v p.d) ps :: L)) :
    ∃ x y, SatL (w.alloc (.cells #[.slice (some ⟨bb, 0, none⟩) b b, .slice (some ⟨lb, 0, none⟩) b b] 64)) (MadeL w.heap.size x y b pv ps 0 L) := by
  refine ⟨bb, lb, ?_⟩
  have h2 := (RowsR.zero b h).alloc (.cells #[.slice (some ⟨bb, 0, none⟩) b b, .slice (some ⟨lb, 0, none⟩) b b] 64)
  rw [show List.replicate b (Value.bool false) = bools (List.replicate b false) by simp] at h2
  exact h2

set_option maxRecDepth 100000 in
set_option maxHeartbeats 2000000 in
theorem made_ok {b i sec nsec : Nat} (hg : planGood b i) (he : planErr b i = 0) (hse : sec < 4294967296) (hns : nsec < 4294967296) (h : SatL w L) :
    Calls Try.prog 13 #[.int .i64 b, .int .i64 i, .agg #[.int .u32 sec, .int .u32 nsec]] w (Ret fun v w' => ∃ mb, v = .pointer (some ⟨mb, 0, none⟩) ∧ SatL w' (BaseR mb (mkRows b i sec nsec) (List.replicate b false) :: L)) := by
  have k1 := h.alloc (.cells #[.int .u32 sec, .int .u32 nsec] 28)
  have hmk := mkfs_ok hg he hse hns (k1.tail : SatL _ L)
  have hin := mkfsL_in (sec := sec) (nsec := nsec) hg he
  have hbb : b ≤ 65536 := by obtain ⟨g1, g2, g3, g4, g5⟩ := hg; omega
  clear hg he h
  unfold mkRows
  generalize mkfsL b i sec nsec = l at *
  go_enter Try.func13, Try.ntmps13
  go_wp2_with (first
    | (go_at_call 23; (refine hmk.mono ?_); rintro e w1 ⟨v, rfl, lv, rfl, hs1⟩; obtain ⟨ps, hps, hs2⟩ := sat_PutsL.1 hs1; have Hps := hid hps; clear hps))
  have hs3 := sat_drew.2 (sat_PutsR.1 hs2)
  obtain ⟨a, c, rfl, q1, q2⟩ := SlK.valn hs3
  obtain ⟨wA, rA, hA⟩ := run_make_sl elem_rows hs3 b (by omega) (by omega)
  obtain ⟨wAB, rAB, hAB⟩ := run_make_sl elem_bool hA b (by omega) (by omega)
  obtain ⟨wB, rB, hB⟩ := run_make_sl elem_bool hs3 b (by omega) (by omega)
  obtain ⟨wBA, rBA, hBA⟩ := run_make_sl elem_rows hB b (by omega) (by omega)
  have hFA := mkFin hAB.swap
  have hFB := mkFin hBA
  clear hs2 hs1 hmk k1 hA hB hAB hBA hs3
  go_region
  all_goals first
    | (show Exit.then _ _ _ _ (wAB.alloc _); obtain ⟨bb, lb, hs4⟩ := hFA; clear hFB; generalize wAB.heap.size = MB at *)
    | (show Exit.then _ _ _ _ (wBA.alloc _); obtain ⟨bb, lb, hs4⟩ := hFB; clear hFA; generalize wBA.heap.size = MB at *)
  all_goals
    go_wp2
    go_loopw [10] (fun ii wr => ∃ j : Nat, j ≤ ps.length ∧ ii = .int .i64 j ∧ SatL wr (MadeL MB bb lb b (.slice a ps.length c) ps j L)) (fun ii _ => ps.length - (intOf ii).toNat)
    case atStart => exact ⟨0, by omega, rfl, by simpa [MadeL] using hs4⟩
    case round =>
      clear hs4
      obtain ⟨j, hj, rfl, hs⟩ := hrel
      by_cases hlt : j < ps.length
      · rcases SlK.form (hs.pull 3 : SatL _ (SlK _ _ _ _ _ :: _)) with ⟨_, h0, _⟩ | ⟨pb, off, cap, hv, _, _, _⟩
        · omega
        · cases hv
          have hpj : ps[j]? = some ps[j] := List.getElem?_eq_getElem hlt
          have hd := List.drop_eq_getElem_cons hlt
          have hm : (ps[j].b, ps[j].d) ∈ l := by rw [← Hps.out]; exact List.mem_map.2 ⟨ps[j], List.getElem_mem _, rfl⟩
          obtain ⟨g1, g2⟩ := hin _ hm
          have hrow := rowsOf_snoc b ((ps.map fun p => (p.b, p.d)).take j) (ps[j].b, ps[j].d)
          have htk : (ps.map fun p => (p.b, p.d)).take (j + 1) = (ps.map fun p => (p.b, p.d)).take j ++ [(ps[j].b, ps[j].d)] := by
            rw [List.take_add_one, List.getElem?_map, hpj]; rfl
          rw [← htk] at hrow
          generalize ps[j] = p at *
          obtain ⟨pb', pv, pd⟩ := p
          obtain ⟨k, rfl⟩ : ∃ k : Nat, pb' = k := ⟨pb'.toNat, by simp only at g1; omega⟩
          have gk : k < b := by simp only at g2; omega
          have gk2 : (k : Int) < b := by omega
          have hlt2 : (j : Int) < ps.length := by omega
          obtain ⟨e1, e2⟩ := pcells_get hpj
          have s1 : wr.cell? ⟨pb, off + j * 2, none⟩ = some (.int .i64 k) := SlK.cell (hs.pull 3 : SatL _ (SlK _ _ _ _ _ :: _)) e1
          have s2 : wr.cell? ⟨pb, off + j * 2 + 1, none⟩ = some pv := by rw [Nat.add_assoc]; exact SlK.cell (hs.pull 3 : SatL _ (SlK _ _ _ _ _ :: _)) e2
          have c0 : wr.cell? ⟨MB, 0, none⟩ = some (.slice (some ⟨bb, 0, none⟩) b b) := SatL.cell hs rfl
          have hf : wr.frozen? ⟨bb, k, none⟩ = false := RowsR.free (hs.pull 1 : SatL _ (RowsR _ _ :: _)) k
          obtain ⟨v0, c9⟩ := RowsR.at (hs.pull 1 : SatL _ (RowsR _ _ :: _)) (k := k) (by rw [rowsOf_len]; exact gk)
          rw [Nat.zero_add] at c9
          have h6 : SatL wr (big (fun p : Pt => SlB 5 p.v p.d) (ps.drop j) :: _) := hs.pull 4
          rw [hd] at h6
          have h7 := big_cons.1 h6
          obtain ⟨av, nv, cv, rfl⟩ := Sl.val h7
          have h8 := RowsR.put (h7.bring [3, 0]) (k := k) (by rw [rowsOf_len]; exact gk)
          rw [Nat.zero_add] at h8
          have hfin : SatL (wr.setCell ⟨bb, k, none⟩ (.slice av nv cv)) (MadeL MB bb lb b (.slice (some ⟨pb, off, none⟩) ps.length c) ps (j + 1) L) := by
            unfold MadeL
            rw [hrow]
            exact h8.bring [2, 0, 3, 4, 1]
          have Hf := hid (sat_drew.2 hfin)
          clear hfin h8 h7 h6 hs e1 e2 hpj hd hm hrow htk hin
          go_wp2
          go_region
          all_goals
            go_wp2
            go_roundw
            case rel => exact ⟨j + 1, by omega, by go_num, Hf.out⟩
            case measure => simp [intOf]; omega
      · obtain rfl : j = ps.length := by omega
        unfold MadeL at hs
        rw [List.take_of_length_le (by rw [List.length_map]; exact Nat.le_refl _), Hps.out] at hs
        go_wp2
        go_ret
        have hs9 := SatL.tail (SatL.tail (SatL.bring hs [3, 4, 0, 1, 2]))
        exact Ret.mk ⟨MB, rfl, sat_BaseR.2 ⟨_, _, hs9⟩⟩
end
end Go.Proofs.Ytklnlomleiebaaa
