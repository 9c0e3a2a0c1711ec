/- samePuts, log of chapter 8's statements. No condition beside the sizes that each names. -/
import Derived.Test.YtjjnadlklfegcaaLaw8A
import Derived.Test.YtjjnadlklfegcaaWalBack
namespace Go.Proofs.Ytjjnadlklfegcaa
set_option linter.unusedVariables false
set_option linter.unusedSimpArgs false
open Go.RowKit

theorem sat_drewN {w : World} {L : List HP} (n : Nat) : SatL (w.drewN n) L ↔ SatL w L := Iff.rfl
theorem RdB.drewN {v : Value} {l : List UInt8} {w : World} (h : RdB v l w) (m : Nat) : RdB v l (w.drewN m) := h
theorem str_ne {a b : List UInt8} (h : a ≠ b) : ¬ ((⟨a.toArray⟩ : ByteArray) = ⟨b.toArray⟩) := fun e => h ((strEq_iff a b).1 e)
theorem str_neL {a b : List UInt8} (h : a ≠ b) : ((⟨a.toArray⟩ : ByteArray).toList == (⟨b.toArray⟩ : ByteArray).toList) = false := by
  rw [beq_eq_false_iff_ne]
  intro e
  rw [ByteArray.toList_eq, ByteArray.toList_eq] at e
  exact h (by simpa using e)
section
variable {w : World} {L : List HP}

set_option maxRecDepth 100000 in
set_option maxHeartbeats 2000000 in
theorem sameputs_ok {av bv : Value} {ps qs : List Pt} (h : SatL w (PutsR av ps :: PutsR bv qs :: L)) :
    Calls Try.prog 15 #[av, bv] w (Ret fun r w' => r = .bool (decide (pds ps = pds qs)) ∧ SatL w' (PutsR av ps :: PutsR bv qs :: L)) := by
  obtain ⟨aa, ac, rfl, p1, p2⟩ := (PutsR.rdpts h).1.valn
  obtain ⟨ba, bc, rfl, p3, p4⟩ := (PutsR.rdpts (h.pull 1 : SatL _ (PutsR _ _ :: _))).1.valn
  by_cases hl : ps.length = qs.length
  · rw [hl] at h p1 ⊢
    go_enter Try.func15, Try.ntmps15
    go_wp2
    go_loopw [5] (fun i wr => ∃ j : Nat, j ≤ qs.length ∧ i = .int .i64 j ∧ (pds ps).take j = (pds qs).take j ∧ SatL wr (PutsR (.slice aa qs.length ac) ps :: PutsR (.slice ba qs.length bc) qs :: L)) (fun i _ => qs.length - (intOf i).toNat)
    case atStart => exact ⟨0, by omega, rfl, by simp, h⟩
    case round =>
      clear h
      obtain ⟨j, hj, rfl, ht, hs⟩ := hrel
      by_cases hlt : j < qs.length
      · have hp : ps[j]? = some ps[j] := List.getElem?_eq_getElem (by omega)
        have hq : qs[j]? = some qs[j] := List.getElem?_eq_getElem hlt
        have hrp := PutsR.rdpts hs
        have hrq := PutsR.rdpts (hs.pull 1 : SatL _ (PutsR _ _ :: _))
        obtain ⟨b1, o1, rfl, _⟩ := hrp.1.at (by omega)
        obtain ⟨b2, o2, rfl, _⟩ := hrq.1.at (by omega)
        obtain ⟨va, vc, hv, q3, q4⟩ := hrp.2 _ (List.getElem_mem (by omega : j < ps.length))
        obtain ⟨ua, uc, hu, q5, q6⟩ := hrq.2 _ (List.getElem_mem hlt)
        obtain ⟨c1, c2⟩ := PutsR.cell2 hs hp
        obtain ⟨c3, c4⟩ := PutsR.cell2 (hs.pull 1 : SatL _ (PutsR _ _ :: _)) hq
        have r1 := PutsR.rdb hs (List.getElem_mem (by omega : j < ps.length))
        have r2 := PutsR.rdb (hs.pull 1 : SatL _ (PutsR _ _ :: _)) (List.getElem_mem hlt)
        rw [hv] at c2 r1
        rw [hu] at c4 r2
        have v1 := fun m => RdB.conv (r1.drewN m)
        have v2 := fun m => RdB.conv (r2.drewN m)
        have hsp : (pds ps).take (j + 1) = (pds ps).take j ++ [(ps[j].b, ps[j].d)] := by rw [List.take_add_one, pds_get hp]; rfl
        have hsq : (pds qs).take (j + 1) = (pds qs).take j ++ [(qs[j].b, qs[j].d)] := by rw [List.take_add_one, pds_get hq]; rfl
        have hno := hid (show ¬ (ps[j].b = qs[j].b ∧ ps[j].d = qs[j].d) → ¬ pds ps = pds qs by
          intro hn e
          have h1 := pds_get hp
          rw [e, pds_get hq] at h1
          injection h1 with h1
          injection h1 with h1 h2
          exact hn ⟨h1.symm, h2.symm⟩)
        have Hsp := hid hsp
        have Hsq := hid hsq
        have Ht := hid ht
        clear r1 r2 hsp hsq ht hrp hrq hp hq hv hu
        generalize ps[j].d = d1 at *
        generalize qs[j].d = d2 at *
        generalize ps[j].b = k1 at *
        generalize qs[j].b = k2 at *
        generalize d1.length = l1 at *
        generalize d2.length = l2 at *
        by_cases hk : k1 = k2
        · subst hk
          by_cases hd : d1 = d2
          · subst hd
            generalize (⟨d1.toArray⟩ : ByteArray) = s1 at *
            go_wp2
            go_quiet (fail)
            go_wp2
            go_roundw
            case rel => exact ⟨j + 1, by omega, by go_num, by rw [Hsp.out, Hsq.out, Ht.out], (sat_drewN _).2 hs⟩
            case measure => simp [intOf]; omega
          · have hne := str_neL hd
            have Hf := hid (hno.out (fun e => hd e.2))
            clear hno hd
            generalize (⟨d1.toArray⟩ : ByteArray) = s1 at *
            generalize (⟨d2.toArray⟩ : ByteArray) = s2 at *
            go_wp2
            go_quiet (fail)
            go_wp2
            go_ret
            exact Ret.mk ⟨by rw [decide_eq_false Hf.out]; rfl, (sat_drewN _).2 hs⟩
        · have hne : (k1 != k2) = true := by simpa using hk
          have Hf := hid (hno.out (fun e => hk e.1))
          clear hno hk
          generalize (⟨d1.toArray⟩ : ByteArray) = s1 at *
          generalize (⟨d2.toArray⟩ : ByteArray) = s2 at *
          go_wp2
          go_quiet (fail)
          go_wp2
          go_ret
          exact Ret.mk ⟨by rw [decide_eq_false Hf.out]; rfl, (sat_drewN _).2 hs⟩
      · obtain rfl : j = qs.length := by omega
        have he : pds ps = pds qs := by
          rw [List.take_of_length_le (by rw [pds_len]; omega), List.take_of_length_le (by rw [pds_len]; omega)] at ht
          exact ht
        have He := hid he
        clear he ht
        go_wp2
        go_ret
        exact Ret.mk ⟨by rw [decide_eq_true He.out]; rfl, hs⟩
  · have hne : ((ps.length : Int) != qs.length) = true := by simp; omega
    have Hf := hid (show ¬ pds ps = pds qs from fun e => hl (by rw [← pds_len, e, pds_len]))
    clear hl
    go_enter Try.func15, Try.ntmps15
    go_wp2
    go_ret
    exact Ret.mk ⟨by rw [decide_eq_false Hf.out]; rfl, h⟩
end
end Go.Proofs.Ytjjnadlklfegcaa
