/- WalRecords: for every input it returns true and writes nothing that was there. No condition. -/
import Derived.Test.YtjjnadlklfegcaaLaw8K
import Derived.Test.YtjjnadlklfegcaaWalRef
import Derived.Test.YtjjnadlklfegcaaArg
namespace Go.Proofs.Ytjjnadlklfegcaa
set_option linter.unusedVariables false
set_option linter.unusedSimpArgs false
open Go.RowKit

section
variable {w : World} {L : List HP}
/-- a row that stood when the call began stands still -/
theorem gives_row {w : World} {k : Nat} {a : Option Addr} {n : Nat} {V : Nat → List Value} (h : IsRow w k a n V) : Gives (old w :: L) (fun w' => IsRow w' k a n V) := by
  intro w' hw
  refine ⟨h.1, fun hl => ?_⟩
  obtain ⟨b, o, ha, hc⟩ := h.2 hl
  exact ⟨b, o, ha, fun i hi => ⟨(hc i hi).1, fun j v hv => SatL.oldCell hw ((hc i hi).2 j v hv)⟩⟩
abbrev RecOut (L : List HP) (lv : Value) (ps : List Pt) (O : List PD) (tb : Int) (td : List UInt8) (er : Int) (r : Value) (w' : World) : Prop :=
  ∃ ov ea en ec, r = .tuple #[ov, .agg #[.int .i64 tb, .slice ea en ec], .int .i64 er] ∧ SatL w' (PutsL ov O :: SlB 5 (.slice ea en ec) td :: PutsR lv ps :: L)
theorem record_of {seq : Nat} {lv : Value} {ps : List Pt} {P O : List PD} {tb er : Int} {td : List UInt8} (hs : seq < 18446744073709551616) (hp : pds ps = P) (h1 : recLast seq P = (tb, td)) (h2 : recErr P = er) (h3 : recOut seq P = O) (hl : P.length ≤ 1000000) (h : SatL w (PutsR lv ps :: L)) :
    Calls Try.prog 13 #[.int .u64 seq, lv] w (Ret (RecOut L lv ps O tb td er)) := by
  subst hp h2 h3
  refine (record_ok hs (by rw [← pds_len]; exact hl) h).mono ?_
  rintro e w' ⟨v, rfl, ov, ev, rfl, hh⟩
  rw [h1] at hh ⊢
  obtain ⟨ea, ec, rfl, _⟩ := RdB.valn (SlB.rd (SatL.pull hh 1 : SatL w' (SlB _ _ _ :: _)))
  exact ⟨_, rfl, ov, ea, _, ec, rfl, hh⟩
theorem refrecord_of {seq : Nat} {lv : Value} {ps : List Pt} {P O : List PD} {tb er : Int} {td : List UInt8} (hs : seq < 18446744073709551616) (hp : pds ps = P) (h1 : recLast seq P = (tb, td)) (h2 : recErr P = er) (h3 : recOut seq P = O) (hl : P.length ≤ 1000000) (h : SatL w (PutsR lv ps :: L)) :
    Calls Try.prog 14 #[.int .u64 seq, lv] w (Ret (RecOut L lv ps O tb td er)) := by
  subst hp h2 h3
  refine (refrecord_ok hs (by rw [← pds_len]; exact hl) h).mono ?_
  rintro e w' ⟨v, rfl, ov, ev, rfl, hh⟩
  rw [h1] at hh ⊢
  obtain ⟨ea, ec, rfl, _⟩ := RdB.valn (SlB.rd (SatL.pull hh 1 : SatL w' (SlB _ _ _ :: _)))
  exact ⟨_, rfl, ov, ea, _, ec, rfl, hh⟩
/-- two lists of the same blocks -/
theorem sameL_ok {av bv : Value} {O : List PD} (h : SatL w (PutsL av O :: PutsL bv O :: L)) :
    Calls Try.prog 15 #[av, bv] w (Ret fun r w' => r = .bool true ∧ SatL w' (PutsL av O :: PutsL bv O :: L)) := by
  obtain ⟨ps, hp, h1⟩ := sat_PutsL.1 h
  obtain ⟨qs, hq, h2⟩ := sat_PutsL.1 h1.swap
  refine (sameputs_ok h2.swap).mono ?_
  rintro e w' ⟨v, rfl, rfl, h3⟩
  refine ⟨_, rfl, by rw [decide_eq_true (show pds ps = pds qs from hp.trans hq.symm)], ?_⟩
  have h4 := sat_PutsL.2 ⟨ps, hp, h3⟩
  exact (sat_PutsL.2 ⟨qs, hq, h4.swap⟩).swap
theorem Gives.next {X : HP} {F : World → Prop} (g : Gives L F) : Gives (X :: L) F := fun w h => g w (SatL.tail h)
end

set_option maxRecDepth 100000 in
set_option maxHeartbeats 16000000 in
theorem records_walk (seq : Nat) (hs : seq < 18446744073709551616) (a0 : Option Addr) (l0 c0 : Nat) (A S : Nat → Int) (B : Nat → Nat) (w : World) (hC : BlkRow a0 l0 A S B w) (hB : ∀ i, B i < 256) :
    Calls Try.prog 3 #[.int .u64 seq, .slice a0 l0 c0] w (Ret fun v w' => v = .bool true ∧ SatL w' [old w]) := by
  have hk := known_ok (sat_old w)
  have hg : Gives [old w] (BlkRow a0 l0 A S B) := gives_row hC
  go_enter Try.func3, Try.ntmps3
  by_cases hl : l0 ≤ 100
  · have t1 : True := trivial
    have hpl : (putL l0 A S B).length ≤ 1000000 := by rw [putL_len]; omega
    have hpu := fun (w' : World) (L : List HP) (h : SatL w' L) (g : Gives L (BlkRow a0 l0 A S B)) => puts_ok (c := c0) hB (by omega) h g
    obtain ⟨tb, td, hL⟩ : ∃ tb td, recLast seq (putL l0 A S B) = (tb, td) := ⟨_, _, rfl⟩
    obtain ⟨er, hE⟩ : ∃ er, recErr (putL l0 A S B) = er := ⟨_, rfl⟩
    obtain ⟨O, hO⟩ : ∃ O, recOut seq (putL l0 A S B) = O := ⟨_, rfl⟩
    generalize putL l0 A S B = P at *
    have HL := hid hL
    have HE := hid hE
    have HO := hid hO
    clear hL hE hO hC hB
    go_wp2_with (first
      | (go_at_call 11; (with_reducible refine hk.mono ?_); rintro e w1 ⟨v, rfl, rfl, h1⟩; have hp1 := hpu _ _ h1 hg)
      | (have _t := t1; go_at_call 12; (with_reducible refine hp1.mono ?_); rintro e w2 ⟨m0, rfl, h2⟩; clear t1 hp1; obtain ⟨ps, hps, h3⟩ := sat_PutsL.1 h2; have hr := record_of hs hps HL.out HE.out HO.out hpl h3; have Hps := hid hps; clear hps h2; have t2 : True := trivial)
      | (have _t := t2; go_at_call 13; (with_reducible refine hr.mono ?_); rintro e w3 ⟨v, rfl, ov, ea, en, ec, rfl, h4⟩; clear t2 hr; have h5 := SatL.alloc h4 (.cells #[.int .i64 tb, .slice ea en ec] 29); have hp2 := hpu _ _ h5 (Gives.next (Gives.next (Gives.next (Gives.next hg)))); have t3 : True := trivial)
      | (have _t := t3; go_at_call 12; (with_reducible refine hp2.mono ?_); rintro e w6 ⟨m1, rfl, h6⟩; clear t3 hp2; obtain ⟨qs, hqs, h7⟩ := sat_PutsL.1 h6; have hr2 := refrecord_of hs hqs HL.out HE.out HO.out hpl h7; have Hqs := hid hqs; clear hqs h6; have t4 : True := trivial)
      | (have _t := t4; go_at_call 14; (with_reducible refine hr2.mono ?_); rintro e w8 ⟨v, rfl, ov2, fa, fn, fc, rfl, h8⟩; clear t4 hr2; have h9 := SatL.alloc h8 (.cells #[.int .i64 tb, .slice fa fn fc] 29); have hk3 := sameL_ok (SatL.bring h9 [5, 1]); have t5 : True := trivial)
      | (have _t := t5; go_at_call 15; (with_reducible refine hk3.mono ?_); rintro e w10 ⟨v, rfl, rfl, h10⟩; clear t5 hk3; have ca := SatL.cell (SatL.pull h10 5 : SatL w10 (pt _ _ :: _)) (i := 0) rfl; have cb := SatL.cell (SatL.pull h10 5 : SatL w10 (pt _ _ :: _)) (i := 1) rfl; have cc := SatL.cell (SatL.pull h10 2 : SatL w10 (pt _ _ :: _)) (i := 0) rfl; have cd := SatL.cell (SatL.pull h10 2 : SatL w10 (pt _ _ :: _)) (i := 1) rfl; have v1 := RdB.conv (SlB.rd (SatL.pull h10 6 : SatL w10 (SlB _ _ _ :: _))); have v2 := RdB.conv (SlB.rd (SatL.pull h10 3 : SatL w10 (SlB _ _ _ :: _))); have hp3 := hpu _ _ h10 (Gives.next (Gives.next (Gives.next (Gives.next (Gives.next (Gives.next (Gives.next (Gives.next hg)))))))); have t6 : True := trivial)
      | (have _t := t6; go_at_call 12; (with_reducible refine hp3.mono ?_); rintro e w11 ⟨m2, rfl, h11⟩; clear t6 hp3; have hk4 := sameL_ok (sat_PutsL.2 ⟨ps, Hps.out, (SatL.pull h11 8 : SatL w11 (PutsR _ _ :: _))⟩); have t7 : True := trivial)
      | (have _t := t7; go_at_call 15; (with_reducible refine hk4.mono ?_); rintro e w12 ⟨v, rfl, rfl, h12⟩))
    go_ret
    exact ⟨_, rfl, rfl, h12.tail.tail.tail.tail.tail.tail.tail.tail.tail⟩
  · have hb : decide ((100 : Int) < (l0 : Int)) = true := by simp; omega
    go_wp2_with (go_at_call 11; (with_reducible refine hk.mono ?_); rintro e w1 ⟨v, rfl, rfl, h1⟩)
    go_ret
    exact ⟨_, rfl, rfl, h1⟩
end Go.Proofs.Ytjjnadlklfegcaa
