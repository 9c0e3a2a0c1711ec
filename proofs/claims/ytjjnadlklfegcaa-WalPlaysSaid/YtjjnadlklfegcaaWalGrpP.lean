/- A group's put: a block joins. No condition beside the sizes that it names. -/
import Derived.Test.YtjjnadlklfegcaaWalGrp
import Derived.Test.YtjjnadlklfegcaaCopyPuts
import Derived.StillTailTactics
import Derived.Deep.RegionLaw
namespace Go.Proofs.Ytjjnadlklfegcaa
set_option linter.unusedVariables false
set_option linter.unusedSimpArgs false
open Go.RowKit

section
variable {w : World} {L : List HP} {pb T m : Nat} {cs : Array Value} {lv v : Value} {es : IM} {ps : List Pt} {b : Int} {d : List UInt8}
set_option maxRecDepth 100000 in
set_option maxHeartbeats 2000000 in
theorem gput_ok (h : SatL w (cl pb T cs :: PutsR lv ps :: MapI m es :: L)) (c0 : cs[0]? = some lv) (c1 : cs[1]? = some (.map (some m))) (G : Grp es (ps.map (·.b))) (g : Gives L (RdB v d)) (hd : d.length ≤ 1000000) (hpl : ps.length ≤ 1000000) :
    Calls Try.prog 57 #[.pointer (some ⟨pb, 0, none⟩), .agg #[.int .i64 b, v]] w
      (Ret fun r w' => ∃ lv' ps' es', pds ps' = gput (pds ps) (b, d) ∧ Grp es' (ps'.map (·.b)) ∧ SatL w' (cl pb T (cs.setIfInBounds 0 lv') :: PutsR lv' ps' :: MapI m es' :: L)) := by
  obtain ⟨a, c, rfl, q1, q2⟩ := (g w (SatL.tail (SatL.tail (SatL.tail h)))).valn
  obtain ⟨la, lc, rfl, q3, q4⟩ := (PutsR.rdpts (SatL.pull h 1 : SatL w (PutsR _ _ :: _))).1.valn
  have h1 := h.alloc (.cells #[.int .i64 b, .slice a d.length c] 29)
  have hcl := clone_rd h1 (fun w' h' => g w' (SatL.tail (SatL.tail (SatL.tail (SatL.tail h'))))) (by omega)
  have ek : (pds ps).map (·.1) = ps.map (·.b) := by simp
  have hsz : 1 < cs.size := by
    rcases Nat.lt_or_ge 1 cs.size with h2 | h2
    · exact h2
    · rw [Array.getElem?_eq_none h2] at c1; cases c1
  cases hpc : plc (ps.map (·.b)) b with
  | some i =>
    have hi : i < ps.length := by have := plc_lt hpc; rwa [List.length_map] at this
    have hpi : ps[i]? = some ps[i] := List.getElem?_eq_getElem hi
    obtain ⟨ab, ao, rfl, _⟩ := (PutsR.rdpts (SatL.pull h 1 : SatL w (PutsR _ _ :: _))).1.at (by omega)
    have hbk : ps[i].b = b := by
      have := plc_get hpc
      rw [List.getElem?_map, hpi] at this
      simpa using this
    have hfin : ∀ (w' : World) (xb : Nat) (v' : Value), SatL w' (PutsR (.slice (some ⟨ab, ao, none⟩) ps.length lc) (ps.set i ⟨ps[i].b, v', d⟩) :: cl xb 29 #[.int .i64 b, .slice a d.length c] :: cl pb T cs :: MapI m es :: L) →
        ∃ lv' ps' es', pds ps' = gput (pds ps) (b, d) ∧ Grp es' (ps'.map (·.b)) ∧ SatL w' (cl pb T (cs.setIfInBounds 0 lv') :: PutsR lv' ps' :: MapI m es' :: L) := by
      intro w' xb v' h9
      refine ⟨.slice (some ⟨ab, ao, none⟩) ps.length lc, ps.set i ⟨ps[i].b, v', d⟩, es, ?_, ?_, ?_⟩
      rotate_left 2
      · have e : cs.setIfInBounds 0 (.slice (some ⟨ab, ao, none⟩) ps.length lc) = cs := by
          have h0 : 0 < cs.size := by omega
          rw [Array.getElem?_eq_getElem h0] at c0
          injection c0 with c0
          rw [← c0, Array.setIfInBounds, dif_pos h0, Array.set_getElem_self]
        rw [e]
        exact SatL.tail (h9.bring [1, 2, 0])
      · unfold gput
        simp only [ek, hpc]
        rw [hbk]
        show (ps.set i _).map _ = (ps.map _).set i _
        rw [List.map_set]
      · have : (ps.set i ⟨ps[i].b, v', d⟩).map (·.b) = ps.map (·.b) := by
          rw [List.map_set]
          simp only
          rw [show ps[i].b = (ps.map (·.b))[i]'(by simpa using hi) by simp, List.set_getElem_self]
        rw [this]; exact G
    have Hf := hid hfin
    have hr := fun (w' : World) (L' : List HP) (h' : SatL w' (MapI m es :: L')) => run_lookup_ok_sl key_int h' b
    rw [G.2, hpc] at hr
    have hiz : (i : Int) < ps.length := by omega
    clear ek hpc hfin hbk
    go_enter Try.func57, Try.ntmps57
    go_upto_region 2 with (go_at_call 47; (with_reducible refine hcl.mono ?_); rintro e w2 ⟨v2, rfl, hs2⟩)
    generalize w.heap.size = xb at *
    have hs3 := sat_drew.2 hs2
    have e0 := (SatL.pull hs3 2 : SatL _ (cl pb T cs :: _)).cell c0
    have e1 := (SatL.pull hs3 2 : SatL _ (cl pb T cs :: _)).cell c1
    have e2 : w2.drew.cell? ⟨xb, 0, none⟩ = some (.int .i64 b) := SatL.cell (SatL.pull hs3 1 : SatL _ (cl _ _ _ :: _)) rfl
    have hr2 := hr _ _ (SatL.pull hs3 4 : SatL _ (MapI m es :: _))
    obtain ⟨da, dc, rfl, _, _⟩ := SlB.valn hs3
    have h7 := PutsR.setv (SatL.bring hs3 [3, 0] : SatL w2.drew (PutsR _ _ :: SlB _ _ _ :: _)) hpi
    have k1 := (PutsR.cell2 (SatL.pull hs3 3 : SatL _ (PutsR _ _ :: _)) hpi).2
    have k2 := SlK.free (sat_PutsR.1 (SatL.pull hs3 3 : SatL _ (PutsR _ _ :: _))) (ao + i * 2 + 1)
    go_region
    go_wp2
    go_end0
    exact Ret.mk (Hf.out _ _ _ h7)
  | none =>
    have hnb : b ∉ ps.map (·.b) := plc_none.1 hpc
    have hfin : ∀ (u : Value) (v' : Value), pds (ps ++ [⟨b, u, d⟩]) = gput (pds ps) (b, d) ∧ Grp (mput es b (.int .i64 (ps.length : Nat))) ((ps ++ [(⟨b, u, d⟩ : Pt)]).map (·.b)) := by
      intro u v'
      constructor
      · unfold gput
        simp only [ek, hpc]
        exact pds_snoc _ _
      · have h1 := Grp.push G hnb
        rw [List.length_map] at h1
        rw [List.map_append]; exact h1
    have Hf := hid hfin
    have hr := fun (w' : World) (L' : List HP) (h' : SatL w' (MapI m es :: L')) => run_lookup_ok_sl key_int h' b
    rw [G.2, hpc] at hr
    clear ek hpc hfin hnb
    go_enter Try.func57, Try.ntmps57
    go_upto_region 2 with (go_at_call 47; (with_reducible refine hcl.mono ?_); rintro e w2 ⟨v2, rfl, hs2⟩)
    generalize w.heap.size = xb at *
    clear h h1 hcl
    have hs3 := sat_drew.2 hs2
    have e0 := (SatL.pull hs3 2 : SatL _ (cl pb T cs :: _)).cell c0
    have e1 := (SatL.pull hs3 2 : SatL _ (cl pb T cs :: _)).cell c1
    have e2 : w2.drew.cell? ⟨xb, 0, none⟩ = some (.int .i64 b) := SatL.cell (SatL.pull hs3 1 : SatL _ (cl _ _ _ :: _)) rfl
    have hr2 := hr _ _ (SatL.pull hs3 4 : SatL _ (MapI m es :: _))
    obtain ⟨da, dc, rfl, _, _⟩ := SlB.valn hs3
    go_region
    have hs4 := sat_drew.2 hs3
    clear e0 e1 e2 hr2 hs2 hr
    have e0 := (SatL.pull hs4 2 : SatL _ (cl pb T cs :: _)).cell c0
    have e1 := (SatL.pull hs4 2 : SatL _ (cl pb T cs :: _)).cell c1
    have e2 : w2.drew.drew.cell? ⟨xb, 0, none⟩ = some (.int .i64 b) := SatL.cell (SatL.pull hs4 1 : SatL _ (cl _ _ _ :: _)) rfl
    obtain ⟨w4, rU, hs5⟩ := run_mapUpdate_sl key_int (SatL.pull hs4 4 : SatL _ (MapI m es :: _)) b (.int .i64 ps.length)
    go_upto_region 5 with fail
    go_region
    clear e0 e1 e2 hs3 hs4 rU
    go_upto_region 6 with fail
    have hs6 := sat_drew.2 hs5
    have e0 := (SatL.pull hs6 3 : SatL _ (cl pb T cs :: _)).cell c0
    have e2 : w4.drew.cell? ⟨xb, 0, none⟩ = some (.int .i64 b) := SatL.cell (SatL.pull hs6 2 : SatL _ (cl _ _ _ :: _)) rfl
    have hs7 := sat_drew.2 (hs5.alloc (.cells #[.int .i64 b, .slice da d.length dc] 29))
    have g0 := (SatL.pull hs7 4 : SatL _ (cl pb T cs :: _)).cell c0
    have g2 : (w4.alloc (.cells #[.int .i64 b, .slice da d.length dc] 29)).drew.cell? ⟨xb, 0, none⟩ = some (.int .i64 b) := SatL.cell (SatL.pull hs7 3 : SatL _ (cl _ _ _ :: _)) rfl
    have hs8 : SatL w4.drew (PutsR (.slice la ps.length lc) ps :: SlB 5 (.slice da d.length dc) d :: MapI m (mput es b (.int .i64 ps.length)) :: cl xb 29 #[.int .i64 b, .slice a d.length c] :: cl pb T cs :: L) := hs6.bring [4, 1, 0, 2, 3]
    have t1 : True := trivial
    go_region_law (first
      | (have _t := t1; refine step_onePut_new (w := w4.drew) (nb := w4.heap.size) rfl rfl (.tmp 44) (.tmp 49) rfl rfl rfl rfl hs8 hpl ?_; clear t1; intro v9 w9 h9; obtain ⟨a9, c9, hv9, _, _⟩ := (PutsR.rdpts h9).1.valn; rw [List.length_append, List.length_cons, List.length_nil, Nat.zero_add] at hv9; subst hv9; have m0 := (SatL.pull h9 3 : SatL w9 (cl pb T cs :: _)).cell c0; have m1 := (SatL.pull h9 3 : SatL w9 (cl pb T cs :: _)).free 0; have h10 := (SatL.pull h9 3 : SatL w9 (cl pb T cs :: _)).set (i := 0) (.slice a9 (ps.length + 1) c9))
      | fail "no")
    all_goals
      go_wp2
      go_end0
      exact Ret.mk ⟨_, _, _, (Hf.out _ (.int .i64 0)).1, (Hf.out _ (.int .i64 0)).2, SatL.tail (h10.bring [3, 0, 1, 2])⟩
end
end Go.Proofs.Ytjjnadlklfegcaa
