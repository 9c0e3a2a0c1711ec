/- WalTorn: for every input it returns true and writes nothing that was there. No condition. -/
import Derived.Test.YtjjnadlklfegcaaTornB
import Derived.Test.YtjjnadlklfegcaaRecov
namespace Go.Proofs.Ytjjnadlklfegcaa
set_option linter.unusedVariables false
set_option linter.unusedSimpArgs false
open Go.RowKit

set_option maxRecDepth 100000 in
set_option maxHeartbeats 16000000 in
theorem torn_walk (a0 : Option Addr) (l0 c0 : Nat) (A0 S0 : Nat → Int) (B0 : Nat → Nat) (a1 : Option Addr) (l1 c1 : Nat) (A1 S1 : Nat → Int) (B1 : Nat → Nat) (a2 : Option Addr) (l2 c2 : Nat) (KP : Nat → Bool) (w : World)
    (hC0 : BlkRow a0 l0 A0 S0 B0 w) (hB0 : ∀ i, B0 i < 256) (hC1 : BlkRow a1 l1 A1 S1 B1 w) (hB1 : ∀ i, B1 i < 256) (hK : IsRow w 1 a2 l2 (fun i => [.bool (KP i)])) :
    Calls Try.prog 5 #[.slice a0 l0 c0, .slice a1 l1 c1, .slice a2 l2 c2] w (Ret fun v w' => v = .bool true ∧ SatL w' [old w]) := by
  have hk := known_ok (sat_old w)
  have hg0 : Gives [old w] (BlkRow a0 l0 A0 S0 B0) := gives_row hC0
  have hg1 : Gives [old w] (BlkRow a1 l1 A1 S1 B1) := gives_row hC1
  by_cases hG : grpOf l0 A0 B0 = []
  · have hn0 := fun (w' : World) (h : SatL w' [old w]) => group_no (c := c0) (T := 23) hB0 hG h hg0
    have hn1 : ∃ r1 : Value → Prop, (∀ v, r1 v → ∃ a n c, v = .slice a n c) ∧ ∀ (w' : World), SatL w' [old w] → Calls Try.prog 19 #[.slice (some ⟨w'.heap.size, 0, none⟩) 1 1] (w'.alloc (.cells #[.slice a1 l1 c1] 23)) (Ret fun r w2 => r1 r ∧ SatL w2 [old w]) := by
      refine ⟨fun v => ∃ a n c, v = .slice a n c, fun v h => h, fun w' h => ?_⟩
      by_cases hH : grpOf l1 A1 B1 = []
      · refine (group_no hB1 hH h hg1).mono ?_
        rintro e w2 ⟨r, rfl, ga, gc, rfl, h2⟩
        exact ⟨_, rfl, ⟨ga, 0, gc, rfl⟩, h2⟩
      · refine (group_yes hB1 hH h hg1).mono ?_
        rintro e w2 ⟨r, rfl, gb, go, gc, ua, uc, ps, rfl, hps, h2⟩
        exact ⟨_, rfl, ⟨_, _, _, rfl⟩, h2.tail.tail⟩
    obtain ⟨r1, hr1, hn1⟩ := hn1
    have Hr1 := hid hr1
    clear hr1 hC0 hC1 hK hB0 hB1 hG
    go_enter Try.func5, Try.ntmps5
    have t1 : True := trivial
    go_wp2_with (first
      | (go_at_call 11; (with_reducible refine hk.mono ?_); rintro e w1 ⟨v, rfl, rfl, h1⟩)
      | (have _t := t1; go_at_call 19; (with_reducible refine (hn0 _ h1).mono ?_); rintro e w2 ⟨r, rfl, ga, gc, rfl, h2⟩; clear t1; have t2 : True := trivial)
      | (have _t := t2; go_at_call 19; (with_reducible refine (hn1 _ h2).mono ?_); rintro e w3 ⟨r, rfl, hr, h3⟩; clear t2; obtain ⟨va, vn, vc, rfl⟩ := Hr1.out _ hr))
    go_ret
    exact ⟨_, rfl, rfl, h3⟩
  · by_cases hH : grpOf l1 A1 B1 = []
    · have hn0 := fun (w' : World) (h : SatL w' [old w]) => group_yes (c := c0) (T := 23) hB0 hG h hg0
      have hn1 := fun (w' : World) (h : SatL w' [old w]) => group_no (c := c1) (T := 23) hB1 hH h hg1
      clear hC0 hC1 hK hB0 hB1 hG hH
      go_enter Try.func5, Try.ntmps5
      have t1 : True := trivial
      go_wp2_with (first
        | (go_at_call 11; (with_reducible refine hk.mono ?_); rintro e w1 ⟨v, rfl, rfl, h1⟩)
        | (have _t := t1; go_at_call 19; (with_reducible refine (hn0 _ h1).mono ?_); rintro e w2 ⟨r, rfl, gb, go, gc, ua, uc, ps, rfl, hps, h2⟩; clear t1 hps; have h2 := h2.tail.tail; have t2 : True := trivial)
        | (have _t := t2; go_at_call 19; (with_reducible refine (hn1 _ h2).mono ?_); rintro e w3 ⟨r, rfl, ga, gc2, rfl, h3⟩; clear t2))
      go_ret
      exact ⟨_, rfl, rfl, h3⟩
    · have hn0 := fun (w' : World) (h : SatL w' [old w]) => group_yes (c := c0) (T := 23) hB0 hG h hg0
      have hn1 := fun (w' : World) (L : List HP) (h : SatL w' L) (g : Gives L (BlkRow a1 l1 A1 S1 B1)) => group_yes (c := c1) (T := 23) hB1 hH h g
      have okP := grpOf_ok l0 A0 B0
      have okQ := grpOf_ok l1 A1 B1
      have lnP := grpOf_len l0 A0 B0
      have lnQ := grpOf_len l1 A1 B1
      have hP : recErr (grpOf l0 A0 B0) = 0 := grp_sound okP (by exact List.length_pos_iff.2 hG) (by omega)
      have hQ : recErr (grpOf l1 A1 B1) = 0 := grp_sound okQ (by exact List.length_pos_iff.2 hH) (by omega)
      generalize grpOf l0 A0 B0 = P at *
      generalize grpOf l1 A1 B1 = Q at *
      have hLP : recLast 1 P = (((1 + P.length : Nat) : Int), endB 1 P) := by unfold recLast; rw [if_pos hP]; rfl
      have hLQ : recLast 2 Q = (((1 + Q.length : Nat) : Int), endB 2 Q) := by unfold recLast; rw [if_pos hQ]; rfl
      have hOP : recOut 1 P = recRows 1 P := by unfold recOut; rw [if_pos hP]
      have hOQ : recOut 2 Q = recRows 2 Q := by unfold recOut; rw [if_pos hQ]
      have hrP := fun (w' : World) (lv : Value) (ps : List Pt) (L : List HP) (hp : pds ps = P) (h : SatL w' (PutsR lv ps :: L)) => record_of (seq := 1) (by omega) hp hLP hP hOP (by omega) h
      have hrQ := fun (w' : World) (lv : Value) (ps : List Pt) (L : List HP) (hp : pds ps = Q) (h : SatL w' (PutsR lv ps :: L)) => record_of (seq := 2) (by omega) hp hLQ hQ hOQ (by omega) h
      rw [show ((1 : Nat) : Int) = 1 from rfl] at hrP
      rw [show ((2 : Nat) : Int) = 2 from rfl] at hrQ
      obtain ⟨tP, htP⟩ : ∃ t : Int, t = ((1 + P.length : Nat) : Int) := ⟨_, rfl⟩
      obtain ⟨tQ, htQ⟩ : ∃ t : Int, t = ((1 + Q.length : Nat) : Int) := ⟨_, rfl⟩
      simp only [← htP] at hrP
      simp only [← htQ] at hrQ
      have HtP := hid htP
      have HtQ := hid htQ
      have HEP := hid hP
      have HEQ := hid hQ
      have OkP := hid okP
      have OkQ := hid okQ
      clear hC0 hC1 hB0 hB1 hG hH hLP hLQ hOP hOQ htP htQ hP hQ okP okQ
      go_enter Try.func5, Try.ntmps5
      have t1 : True := trivial
      go_upto_region 11 with (first
        | (go_at_call 11; (with_reducible refine hk.mono ?_); rintro e w1 ⟨v, rfl, rfl, h1⟩)
        | (have _t := t1; go_at_call 19; (with_reducible refine (hn0 _ h1).mono ?_); rintro e w2 ⟨r, rfl, gb, go, gc, ua, uc, ps, rfl, hps, h2⟩; clear t1; have Hps := hid hps; clear hps; have hn1 := hn1 _ _ h2 (Gives.next (Gives.next hg1)); have t2 : True := trivial)
        | (have _t := t2; go_at_call 19; (with_reducible refine hn1.mono ?_); rintro e w3 ⟨r, rfl, hb, ho, hc, va, vc, qs, rfl, hqs, h3⟩; clear t2; have Hqs := hid hqs; clear hqs; have cP := Sl.cell (SatL.pull h3 2 : SatL w3 (Sl _ _ _ :: _)) (i := 0) rfl; rw [Nat.add_zero] at cP; have hr1 := hrP _ _ _ _ Hps.out (SatL.pull h3 3 : SatL w3 (PutsR _ _ :: _)); have t3 : True := trivial)
        | (have _t := t3; go_at_call 13; (with_reducible refine hr1.mono ?_); rintro e w4 ⟨v, rfl, ov, ea, en, ec, rfl, h4⟩; clear t3 hr1; obtain ⟨xs, hxs, h4'⟩ := sat_PutsL.1 h4; have Hxs := hid hxs; clear hxs; obtain ⟨oa, oc, rfl, q3, q4⟩ := (PutsR.rdpts h4').1.valn; have h5 := SatL.alloc h4' (.cells #[.int .i64 tP, .slice ea en ec] 29); have cQ := Sl.cell (SatL.pull h5 4 : SatL _ (Sl _ _ _ :: _)) (i := 0) rfl; rw [Nat.add_zero] at cQ; have hr2 := hrQ _ _ _ _ Hqs.out (SatL.pull h5 5 : SatL _ (PutsR _ _ :: _)); have t4 : True := trivial)
        | (have _t := t4; go_at_call 13; (with_reducible refine hr2.mono ?_); rintro e w6 ⟨v, rfl, ov2, fa, fn, fc, rfl, h6⟩; clear t4 hr2; obtain ⟨ys, hys, h6'⟩ := sat_PutsL.1 h6; have Hys := hid hys; clear hys; obtain ⟨oa2, oc2, rfl, q5, q6⟩ := (PutsR.rdpts h6').1.valn; have h7 := SatL.alloc h6' (.cells #[.int .i64 tQ, .slice fa fn fc] 29)))
      have cT := fun (e1 : Nat) (w' : World) (L : List HP) (tP : Int) (ea : Option Addr) (en ec : Nat) (h : SatL w' (pt e1 (.cells #[.int .i64 tP, .slice ea en ec] 29) :: L)) => (⟨SatL.cell h (i := 0) rfl, SatL.cell h (i := 1) rfl⟩ : w'.cell? ⟨e1, 0, none⟩ = some (.int .i64 tP) ∧ w'.cell? ⟨e1, 1, none⟩ = some (.slice ea en ec))
      have CT := hid cT
      have hxl : xs.length ≤ 1000000 := by
        have h1 := congrArg List.length Hxs.out
        rw [List.length_map] at h1
        rw [h1]; simp [recRows, inRow_len]; omega
      have hyl : ys.length ≤ 1000000 := by
        have h1 := congrArg List.length Hys.out
        rw [List.length_map] at h1
        rw [h1]; simp [recRows, inRow_len]; omega
      generalize w6.alloc (.cells #[.int .i64 tQ, .slice fa fn fc] 29) = wA at *
      generalize w6.heap.size = e2 at *
      generalize w4.heap.size = e1 at *
      have f0 : SatL wA (PutsR (.slice oa xs.length oc) xs :: pt e1 (.cells #[.int .i64 tP, .slice ea en ec] 29) :: PutsR (.slice oa2 ys.length oc2) ys :: pt e2 (.cells #[.int .i64 tQ, .slice fa fn fc] 29) :: SlB 5 (.slice fa fn fc) (endB 2 Q) :: PutsR (.slice va qs.length vc) qs :: SlB 5 (.slice ea en ec) (endB 1 P) :: PutsR (.slice ua ps.length uc) ps :: Sl 25 (.slice (some ⟨hb, ho, none⟩) 1 hc) [.slice va qs.length vc] :: Sl 25 (.slice (some ⟨gb, go, none⟩) 1 gc) [.slice ua ps.length uc] :: [old w]) := h7.bring [5, 4, 1, 0, 2, 3]
      clear h1 h2 h3 h4 h4' h5 h6 h6' h7 cT cP cQ hk hg0 hg1 hn0 hn1 hrP hrQ q3 q4 q5 q6
      have c0 := CT.out _ _ _ _ _ _ _ (SatL.pull (sat_drew.2 f0) 1)
      have f1 := sat_drew.2 (emptyK f0)
      have f2 := SatL.bring (sat_drew.2 ((emptyK f0).allocN (n := wA.heap.size + 1) (.cells #[.int .i64 tP, .slice ea en ec] 29) (by simp))) [1, 2, 0]
      have f3 := SatL.bring (sat_drew.2 (emptyKN (n := wA.heap.size + 1) (by simp) (f0.allocN (n := wA.heap.size) (.cells #[.int .i64 tP, .slice ea en ec] 29) rfl))) [0, 2, 1]
      have x1 := CT.out _ _ _ _ _ _ _ (SatL.pull f1 2)
      have x2 := CT.out _ _ _ _ _ _ _ (SatL.pull f2 3)
      have x3 := CT.out _ _ _ _ _ _ _ (SatL.pull f3 3)
      have x4 := CT.out _ _ _ _ _ _ _ (SatL.pull (sat_drew.2 (f0.alloc (.cells #[.int .i64 tP, .slice ea en ec] 29))) 2)
      have b1 : True := trivial
      go_cut [15] from 64 to 69 (fun v wr => SatL wr (SlK 29 2 v (xs.length + 1) (pcells (xs ++ [⟨tP, .slice ea en ec, endB 1 P⟩])) :: PutsR (.slice oa xs.length oc) xs :: pt e1 (.cells #[.int .i64 tP, .slice ea en ec] 29) :: PutsR (.slice oa2 ys.length oc2) ys :: pt e2 (.cells #[.int .i64 tQ, .slice fa fn fc] 29) :: SlB 5 (.slice fa fn fc) (endB 2 Q) :: PutsR (.slice va qs.length vc) qs :: SlB 5 (.slice ea en ec) (endB 1 P) :: PutsR (.slice ua ps.length uc) ps :: Sl 25 (.slice (some ⟨hb, ho, none⟩) 1 hc) [.slice va qs.length vc] :: Sl 25 (.slice (some ⟨gb, go, none⟩) 1 gc) [.slice ua ps.length uc] :: [old w]))
      case first =>
        go_region_held3 (fun w' => w'.cell? ⟨e1, 0, none⟩ = some (.int .i64 tP) ∧ w'.cell? ⟨e1, 1, none⟩ = some (.slice ea en ec)) (first | (with_reducible exact c0) | (with_reducible exact m0) | (with_reducible exact x1) | (with_reducible exact x2) | (with_reducible exact x3) | (with_reducible exact x4) | (with_reducible exact x5) | go_keep) (first
          | (have _t := b1; refine step_copyKeep rfl (.tmp 64) (.tmp 65) rfl rfl rfl f1 hxl ?_; intro v7 w7 g1; clear b1; have m0 := CT.out _ _ _ _ _ _ _ (SatL.pull g1 2); have x5 := CT.out _ _ _ _ _ _ _ (SatL.pull (g1.alloc (.cells #[.int .i64 tP, .slice ea en ec] 29)) 3); have b2 : True := trivial)
          | (have _t := b1; refine step_copyKeep rfl (.tmp 64) (.tmp 65) rfl rfl rfl f2 hxl ?_; intro v7 w7 g1; clear b1; have m0 := CT.out _ _ _ _ _ _ _ (SatL.pull g1 3); have g1 := SatL.bring g1 [0, 2]; have b3 : True := trivial)
          | (have _t := b1; refine step_copyKeep rfl (.tmp 64) (.tmp 65) rfl rfl rfl f3 hxl ?_; intro v7 w7 g1; clear b1; have m0 := CT.out _ _ _ _ _ _ _ (SatL.pull g1 3); have g1 := SatL.bring g1 [0, 2]; have b3 : True := trivial)
          | (have _t := b2; refine step_cell_new (d := endB 1 P) rfl rfl (.tmp 66) (.tmp 68) rfl rfl rfl rfl g1 hxl ?_; intro v9 w9 g2; clear b2; have m0 := CT.out _ _ _ _ _ _ _ (SatL.pull g2 2))
          | (have _t := b3; refine step_cell_cl (d := endB 1 P) rfl (.tmp 66) (.tmp 68) rfl rfl rfl rfl g1 hxl ?_; intro v9 w9 g2; clear b3; have m0 := CT.out _ _ _ _ _ _ _ (SatL.pull g2 2))
          | fail "no")
        all_goals
          go_wp2_with fail
          go_meet
          exact g2
      case rest =>
        clear f0 f1 f2 f3 c0 x1 x2 x3 x4 b1
        have f0 : SatL wc (PutsR (.slice oa2 ys.length oc2) ys :: pt e2 (.cells #[.int .i64 tQ, .slice fa fn fc] 29) :: SlK 29 2 u15 (xs.length + 1) (pcells (xs ++ [⟨tP, .slice ea en ec, endB 1 P⟩])) :: PutsR (.slice oa xs.length oc) xs :: pt e1 (.cells #[.int .i64 tP, .slice ea en ec] 29) :: SlB 5 (.slice fa fn fc) (endB 2 Q) :: PutsR (.slice va qs.length vc) qs :: SlB 5 (.slice ea en ec) (endB 1 P) :: PutsR (.slice ua ps.length uc) ps :: Sl 25 (.slice (some ⟨hb, ho, none⟩) 1 hc) [.slice va qs.length vc] :: Sl 25 (.slice (some ⟨gb, go, none⟩) 1 gc) [.slice ua ps.length uc] :: [old w]) := hcut.bring [3, 4, 0, 1, 2]
        clear hcut
        have c0 := CT.out _ _ _ _ _ _ _ (SatL.pull (sat_drew.2 f0) 1)
        have f1 := sat_drew.2 (emptyK f0)
        have f2 := SatL.bring (sat_drew.2 ((emptyK f0).allocN (n := wc.heap.size + 1) (.cells #[.int .i64 tQ, .slice fa fn fc] 29) (by simp))) [1, 2, 0]
        have f3 := SatL.bring (sat_drew.2 (emptyKN (n := wc.heap.size + 1) (by simp) (f0.allocN (n := wc.heap.size) (.cells #[.int .i64 tQ, .slice fa fn fc] 29) rfl))) [0, 2, 1]
        have x1 := CT.out _ _ _ _ _ _ _ (SatL.pull f1 2)
        have x2 := CT.out _ _ _ _ _ _ _ (SatL.pull f2 3)
        have x3 := CT.out _ _ _ _ _ _ _ (SatL.pull f3 3)
        have x4 := CT.out _ _ _ _ _ _ _ (SatL.pull (sat_drew.2 (f0.alloc (.cells #[.int .i64 tQ, .slice fa fn fc] 29))) 2)
        have b1 : True := trivial
        go_upto_region 12 with fail
        go_cut [16] from 70 to 75 (fun v wr => SatL wr (SlK 29 2 v (ys.length + 1) (pcells (ys ++ [⟨tQ, .slice fa fn fc, endB 2 Q⟩])) :: PutsR (.slice oa2 ys.length oc2) ys :: pt e2 (.cells #[.int .i64 tQ, .slice fa fn fc] 29) :: SlK 29 2 u15 (xs.length + 1) (pcells (xs ++ [⟨tP, .slice ea en ec, endB 1 P⟩])) :: PutsR (.slice oa xs.length oc) xs :: pt e1 (.cells #[.int .i64 tP, .slice ea en ec] 29) :: SlB 5 (.slice fa fn fc) (endB 2 Q) :: PutsR (.slice va qs.length vc) qs :: SlB 5 (.slice ea en ec) (endB 1 P) :: PutsR (.slice ua ps.length uc) ps :: Sl 25 (.slice (some ⟨hb, ho, none⟩) 1 hc) [.slice va qs.length vc] :: Sl 25 (.slice (some ⟨gb, go, none⟩) 1 gc) [.slice ua ps.length uc] :: [old w]))
        case first =>
          go_region_held3 (fun w' => w'.cell? ⟨e2, 0, none⟩ = some (.int .i64 tQ) ∧ w'.cell? ⟨e2, 1, none⟩ = some (.slice fa fn fc)) (first | (with_reducible exact c0) | (with_reducible exact m0) | (with_reducible exact x1) | (with_reducible exact x2) | (with_reducible exact x3) | (with_reducible exact x4) | (with_reducible exact x5) | go_keep) (first
            | (have _t := b1; refine step_copyKeep rfl (.tmp 70) (.tmp 71) rfl rfl rfl f1 hyl ?_; intro v7 w7 g1; clear b1; have m0 := CT.out _ _ _ _ _ _ _ (SatL.pull g1 2); have x5 := CT.out _ _ _ _ _ _ _ (SatL.pull (g1.alloc (.cells #[.int .i64 tQ, .slice fa fn fc] 29)) 3); have b2 : True := trivial)
            | (have _t := b1; refine step_copyKeep rfl (.tmp 70) (.tmp 71) rfl rfl rfl f2 hyl ?_; intro v7 w7 g1; clear b1; have m0 := CT.out _ _ _ _ _ _ _ (SatL.pull g1 3); have g1 := SatL.bring g1 [0, 2]; have b3 : True := trivial)
            | (have _t := b1; refine step_copyKeep rfl (.tmp 70) (.tmp 71) rfl rfl rfl f3 hyl ?_; intro v7 w7 g1; clear b1; have m0 := CT.out _ _ _ _ _ _ _ (SatL.pull g1 3); have g1 := SatL.bring g1 [0, 2]; have b3 : True := trivial)
            | (have _t := b2; refine step_cell_new (d := endB 2 Q) rfl rfl (.tmp 72) (.tmp 74) rfl rfl rfl rfl g1 hyl ?_; intro v9 w9 g2; clear b2; have m0 := CT.out _ _ _ _ _ _ _ (SatL.pull g2 2))
            | (have _t := b3; refine step_cell_cl (d := endB 2 Q) rfl (.tmp 72) (.tmp 74) rfl rfl rfl rfl g1 hyl ?_; intro v9 w9 g2; clear b3; have m0 := CT.out _ _ _ _ _ _ _ (SatL.pull g2 2))
            | fail "no")
          all_goals
            go_wp2_with fail
            go_meet
            exact g2
        case rest =>
          clear f0 f1 f2 f3 c0 x1 x2 x3 x4 b1
          -- hcut: m, y, t13, l, x, t10, F, u2, A, u1, g2, g1, old
          have hs0 : SatL wc (SlK 29 2 u15 (xs.length + 1) (pcells (xs ++ [⟨tP, .slice ea en ec, endB 1 P⟩])) :: SlK 29 2 u16 (ys.length + 1) (pcells (ys ++ [⟨tQ, .slice fa fn fc, endB 2 Q⟩])) :: PutsR (.slice oa2 ys.length oc2) ys :: PutsR (.slice oa xs.length oc) xs :: SlB 5 (.slice fa fn fc) (endB 2 Q) :: SlB 5 (.slice ea en ec) (endB 1 P) :: PutsR (.slice ua ps.length uc) ps :: PutsR (.slice va qs.length vc) qs :: Sl 25 (.slice (some ⟨gb, go, none⟩) 1 gc) [.slice ua ps.length uc] :: Sl 25 (.slice (some ⟨hb, ho, none⟩) 1 hc) [.slice va qs.length vc] :: [old w]) :=
            SatL.tail (SatL.tail (hcut.bring [2, 5, 3, 0, 1, 4, 6, 8, 9, 7, 11, 10]))
          obtain ⟨ms, hms⟩ : ∃ ms, ms = ys ++ [(⟨tQ, .slice fa fn fc, endB 2 Q⟩ : Pt)] := ⟨_, rfl⟩
          obtain ⟨ls, hls⟩ : ∃ ls, ls = xs ++ [(⟨tP, .slice ea en ec, endB 1 P⟩ : Pt)] := ⟨_, rfl⟩
          have hml : ys.length + 1 = ms.length := by rw [hms]; simp
          have hll : xs.length + 1 = ls.length := by rw [hls]; simp
          rw [← hms, ← hls, hml, hll] at hs0
          have hpt : ∀ p, p ∈ ls ∨ p ∈ ms → PtSl p := by
            have k1 := PutsR.ptsl (SatL.pull hs0 3 : SatL wc (PutsR _ _ :: _))
            have k2 := PutsR.ptsl (SatL.pull hs0 2 : SatL wc (PutsR _ _ :: _))
            have k3 := RdB.valn (SlB.rd (SatL.pull hs0 5 : SatL wc (SlB _ _ _ :: _)))
            have k4 := RdB.valn (SlB.rd (SatL.pull hs0 4 : SatL wc (SlB _ _ _ :: _)))
            intro p hp
            rw [hls, hms] at hp
            rcases hp with hp | hp
            · rcases List.mem_append.1 hp with hp | hp
              · exact k1 p hp
              · rw [List.mem_singleton.1 hp]; exact k3
            · rcases List.mem_append.1 hp with hp | hp
              · exact k2 p hp
              · rw [List.mem_singleton.1 hp]; exact k4
          have hrd : ∀ w', SatL w' (PutsR (.slice oa2 ys.length oc2) ys :: PutsR (.slice oa xs.length oc) xs :: SlB 5 (.slice fa fn fc) (endB 2 Q) :: SlB 5 (.slice ea en ec) (endB 1 P) :: PutsR (.slice ua ps.length uc) ps :: PutsR (.slice va qs.length vc) qs :: Sl 25 (.slice (some ⟨gb, go, none⟩) 1 gc) [.slice ua ps.length uc] :: Sl 25 (.slice (some ⟨hb, ho, none⟩) 1 hc) [.slice va qs.length vc] :: [old w]) → ∀ p, p ∈ ls ∨ p ∈ ms → RdB p.v p.d w' := by
            intro w' h' p hp
            rw [hls, hms] at hp
            rcases hp with hp | hp
            · rcases List.mem_append.1 hp with hp | hp
              · exact PutsR.rdb (SatL.pull h' 1 : SatL w' (PutsR _ _ :: _)) hp
              · rw [List.mem_singleton.1 hp]; exact SlB.rd (SatL.pull h' 3 : SatL w' (SlB _ _ _ :: _))
            · rcases List.mem_append.1 hp with hp | hp
              · exact PutsR.rdb h' hp
              · rw [List.mem_singleton.1 hp]; exact SlB.rd (SatL.pull h' 2 : SatL w' (SlB _ _ _ :: _))
          have hm40 : ms.length ≤ 40 := by
            rw [← hml]
            have h1 := congrArg List.length Hys.out
            rw [List.length_map] at h1
            rw [h1]; simp [recRows, inRow_len]; omega
          have hl40 : ls.length ≤ 40 := by
            rw [← hll]
            have h1 := congrArg List.length Hxs.out
            rw [List.length_map] at h1
            rw [h1]; simp [recRows, inRow_len]; omega
          have Hms := hid hms
          have Hls := hid hls
          have Hrd := hid hrd
          have Hpt := hid hpt
          clear hms hls hcut hml hll hrd hpt hxl hyl
          obtain ⟨ma, mc, rfl, m1, m2⟩ := SlK.valn (SatL.pull hs0 1 : SatL wc (SlK _ _ _ _ _ :: _))
          go_wp2
          go_loopw [15, 17] (fun lv kv wr => ∃ (k : Nat) (zs : List Pt), k ≤ ms.length ∧ kv = .int .i64 k ∧ zs.length ≤ 40 + k ∧ (∀ q ∈ zs, q ∈ ls ∨ q ∈ ms) ∧ (∀ q ∈ ls, q ∈ zs) ∧ SatL wr (SlK 29 2 lv zs.length (pcells zs) :: SlK 29 2 (.slice ma ms.length mc) ms.length (pcells ms) :: PutsR (.slice oa2 ys.length oc2) ys :: PutsR (.slice oa xs.length oc) xs :: SlB 5 (.slice fa fn fc) (endB 2 Q) :: SlB 5 (.slice ea en ec) (endB 1 P) :: PutsR (.slice ua ps.length uc) ps :: PutsR (.slice va qs.length vc) qs :: Sl 25 (.slice (some ⟨gb, go, none⟩) 1 gc) [.slice ua ps.length uc] :: Sl 25 (.slice (some ⟨hb, ho, none⟩) 1 hc) [.slice va qs.length vc] :: [old w])) (fun _ kv _ => ms.length - (intOf kv).toNat)
          case atStart => exact ⟨0, ls, by omega, rfl, by omega, fun q h => .inl h, fun q h => h, hs0⟩
          case round =>
            clear hs0
            obtain ⟨k, zs, hkm, rfl, hzl, hz1, hz2, hs⟩ := hrel
            have Hz1 := hid hz1
            have Hz2 := hid hz2
            clear hz1 hz2
            obtain ⟨za, zc, rfl, z1, z2⟩ := SlK.valn hs
            by_cases hkl : k < ms.length
            · have hp : ms[k]? = some ms[k] := List.getElem?_eq_getElem hkl
              obtain ⟨va', vc', hv, v1, v2⟩ := Hpt.out _ (.inr (List.getElem_mem hkl))
              obtain ⟨mb, mo, rfl⟩ : ∃ mb mo, ma = some ⟨mb, mo, none⟩ := by
                obtain ⟨b', o', h1, _⟩ := (SlK.rdk (SatL.pull hs 1 : SatL wr (SlK _ _ _ _ _ :: _))).at (by omega)
                exact ⟨b', o', h1⟩
              obtain ⟨c1, c2⟩ := pcells_get hp
              have d1 := SlK.cell (SatL.pull hs 1 : SatL wr (SlK _ _ _ _ _ :: _)) c1
              have d2 := SlK.cell (SatL.pull hs 1 : SatL wr (SlK _ _ _ _ _ :: _)) c2
              rw [← Nat.add_assoc, hv] at d2
              have hk1 : (k : Int) < ms.length := by omega
              have Hmem := hid (show ms[k] ∈ ms from List.getElem_mem hkl)
              have Hmk := hid (show ms[k] = ⟨ms[k].b, .slice va' ms[k].d.length vc', ms[k].d⟩ by rw [← hv])
              have b9 : 0 < 32 := by omega
              have b2 : (zs.length + 1) * 32 ≤ 140737488355328 := by omega
              generalize ms[k].d.length = mn at *
              generalize ms[k].b = mkb at *
              clear hp hv c1 c2
              by_cases hkl2 : k < l2
              · obtain ⟨kb, ko, rfl, hc2⟩ := hK.2 (by omega)
                have dk := SatL.oldCell (SatL.pull hs 10 : SatL _ (old w :: _)) ((hc2 k hkl2).2 0 _ rfl)
                rw [Nat.mul_one, Nat.add_zero] at dk
                have hk2 : (k : Int) < l2 := by omega
                clear hc2 hK
                cases hkp : KP k with
                | true =>
                  rw [hkp] at dk
                  clear hkp
                  go_wp2_with (at_builtin; refine wpList_pushK_sl rfl rfl (.tmp 92) (.tmp 97) rfl elem_put b9 rfl hs rfl rfl (by simp [Value.oneCell']) b2 ?_; intro v9 w9 h9)
                  go_roundw
                  case rel =>
                    refine ⟨k + 1, zs ++ [ms[k]], by omega, by go_num, by simp; omega, fun q hq => ?_, fun q hq => List.mem_append_left _ (Hz2.out q hq), ?_⟩
                    · rcases List.mem_append.1 hq with hq | hq
                      · exact Hz1.out q hq
                      · rw [List.mem_singleton.1 hq]; exact .inr Hmem.out
                    · rw [Hmk.out, pcells_snoc1, List.length_append]; exact h9
                  case measure => simp [intOf]; omega
                | false =>
                  rw [hkp] at dk
                  clear hkp
                  go_wp2_with fail
                  go_roundw
                  case rel => exact ⟨k + 1, zs, by omega, by go_num, by omega, Hz1.out, Hz2.out, hs⟩
                  case measure => simp [intOf]; omega
              · have hk2 : ¬ (k : Int) < l2 := by omega
                clear hK
                go_wp2_with fail
                go_roundw
                case rel => exact ⟨k + 1, zs, by omega, by go_num, by omega, Hz1.out, Hz2.out, hs⟩
                case measure => simp [intOf]; omega
            · -- END
              obtain rfl : k = ms.length := by omega
              have hin := torn_in Hxs.out Hys.out HtP.out HtQ.out Hls.out Hms.out Hz1.out Hz2.out
              have hT := torn_law HEP.out HEQ.out (fun p hp => (OkP.out.2 p hp).2.2) (fun p hp => (OkQ.out.2 p hp).2.2) hin.1 hin.2
              have hlog := log_rd (lv := .slice za zs.length zc) (ps := zs) (by omega) hs (fun w' h' => ⟨⟨SlK.rdk h', fun p hp => Hpt.out p (Hz1.out p hp)⟩, fun p hp => Hrd.out _ (SatL.tail (SatL.tail h')) p (Hz1.out p hp)⟩)
              obtain ⟨xv, xr, hxe⟩ := head_row Hxs.out
              obtain ⟨yv, yr, hye⟩ := head_row Hys.out
              have hx0 : xs[0]? = some ⟨0, xv, headB 1 P⟩ := by rw [hxe]; rfl
              have hy0 : ys[0]? = some ⟨0, yv, headB 2 Q⟩ := by rw [hye]; rfl
              have hxm : (⟨0, xv, headB 1 P⟩ : Pt) ∈ xs := by rw [hxe]; simp
              have hym : (⟨0, yv, headB 2 Q⟩ : Pt) ∈ ys := by rw [hye]; simp
              have hx1 : (0 : Int) < xs.length := by rw [hxe, List.length_cons]; omega
              have hy1 : (0 : Int) < ys.length := by rw [hye, List.length_cons]; omega
              have hlx : xs.length ≤ 9223372036854775807 := by
                have h1 := congrArg List.length Hxs.out
                rw [List.length_map] at h1
                rw [h1]; simp [recRows, inRow_len]; omega
              have hly : ys.length ≤ 9223372036854775807 := by
                have h1 := congrArg List.length Hys.out
                rw [List.length_map] at h1
                rw [h1]; simp [recRows, inRow_len]; omega
              have hps : ps.length ≤ 30 := by have := congrArg List.length Hps.out; rw [List.length_map] at this; omega
              have hqs : qs.length ≤ 30 := by have := congrArg List.length Hqs.out; rw [List.length_map] at this; omega
              have Hx0 := hid hx0
              have Hy0 := hid hy0
              have Hxm := hid hxm
              have Hym := hid hym
              clear hin hxe hye hx0 hy0 hxm hym hkl
              rcases hT with hA | ⟨got, hr, hp, hcr⟩ | ⟨got, hr, hp, hcr⟩
              · have HA := hid hA
                clear hA
                go_wp2_with (first
                  | (go_at_call 16; (with_reducible refine hlog.mono ?_); rintro e w1 ⟨v, rfl, h1⟩; have hrc := recover_ok (by rw [logB_len]; omega) h1 (fun w' h' => SlB.rd h'))
                  | (go_at_call 17; (with_reducible refine hrc.mono ?_); rintro e w2 ⟨r, rfl, ov, hr0, h2⟩; rw [HA.out] at hr0 h2; obtain rfl : r = .tuple #[.int .u64 0, ov, .int .i64 2] := hr0; obtain ⟨gs, hgs, h3⟩ := sat_PutsL.1 h2; obtain rfl : gs = [] := List.map_eq_nil_iff.1 hgs; obtain ⟨ga, gc, rfl, g3, g4⟩ := (PutsR.rdpts h3).1.valn; clear hgs))
                go_ret
                exact ⟨_, rfl, rfl, h3.to⟩
              · obtain ⟨gs0, hgs0⟩ : ∃ gs0 : List Pt, True := ⟨[], trivial⟩
                clear hgs0 gs0
                have Hr := hid hr
                have Hp := hid hp
                have Hc := hid hcr
                clear hr hp hcr
                have b1 : True := trivial
                go_upto_region 19 with (first
                  | (go_at_call 16; (with_reducible refine hlog.mono ?_); rintro e w1 ⟨v, rfl, h1⟩; have hrc := recover_ok (by rw [logB_len]; omega) h1 (fun w' h' => SlB.rd h'))
                  | (go_at_call 17; (with_reducible refine hrc.mono ?_); rintro e w2 ⟨r, rfl, ov, hr0, h2⟩; rw [Hr.out] at hr0 h2; obtain rfl : r = .tuple #[.int .u64 1, ov, .int .i64 0] := hr0; obtain ⟨gs, hgs, h3⟩ := sat_PutsL.1 h2; have Hgs := hid hgs; clear hgs h2))
                obtain ⟨t1, t2, t3, t4, t5⟩ := torn_got Hgs.out Hps.out (by omega) Hr.out Hp.out (fun p hp => (OkP.out.2 p hp).2.2) Hc.out
                have h4 := h3.bring [0, 8]
                clear h3 hlog hrc
                obtain ⟨ga, gcc, hov, g3, g4⟩ := (PutsR.rdpts h4).1.valn
                rw [t1] at hov
                subst hov
                have hsp := sameputs_ok h4
                have cA := Sl.cell (SatL.pull h4 10 : SatL w2 (Sl _ _ _ :: _)) (i := 0) rfl
                have cB := Sl.cell (SatL.pull h4 11 : SatL w2 (Sl _ _ _ :: _)) (i := 0) rfl
                rw [Nat.add_zero] at cA cB
                have Ht2 := hid t2
                have Ht3 := hid t3
                have Ht4 := hid t4
                clear t2 t3 t4
                by_cases hEq : pds gs = pds ps
                · rw [decide_eq_true hEq] at hsp
                  clear hEq t5
                  go_wp2_with (go_at_call 15; (with_reducible refine hsp.mono ?_); rintro e w3 ⟨v, rfl, rfl, h5⟩)
                  go_ret
                  exact ⟨_, rfl, rfl, h5.to⟩
                · rw [decide_eq_false hEq] at hsp
                  have Ht5 := hid t5
                  clear hEq t5
                  go_upto_region 29 with (go_at_call 15; (with_reducible refine hsp.mono ?_); rintro e w3 ⟨v, rfl, rfl, h5⟩; have cA2 := Sl.cell (SatL.pull h5 10 : SatL w3 (Sl _ _ _ :: _)) (i := 0) rfl; have cB2 := Sl.cell (SatL.pull h5 11 : SatL w3 (Sl _ _ _ :: _)) (i := 0) rfl; rw [Nat.add_zero] at cA2 cB2)
                  clear cA cB cA2 cB2 hsp h4
                  have h6 : SatL w3 (SlB 5 (.slice none 0 0) (flatTo ps 0) :: SlB 5 (.slice none 0 0) (flatTo gs 0) :: _) := Sl_nil (Sl_nil h5)
                  go_wp2
                  go_loopw [22, 23, 24] (fun ov tv kv wr => ∃ k : Nat, k ≤ ps.length ∧ kv = .int .i64 k ∧ SatL wr (SlB 5 ov (flatTo ps k) :: SlB 5 tv (flatTo gs k) :: PutsR (.slice ga ps.length gcc) gs :: PutsR (.slice ua ps.length uc) ps :: SlB 5 v (logB (pds zs)) :: SlK 29 2 (.slice za zs.length zc) zs.length (pcells zs) :: SlK 29 2 (.slice ma ms.length mc) ms.length (pcells ms) :: PutsR (.slice oa2 ys.length oc2) ys :: PutsR (.slice oa xs.length oc) xs :: SlB 5 (.slice fa fn fc) (endB 2 Q) :: SlB 5 (.slice ea en ec) (endB 1 P) :: PutsR (.slice va qs.length vc) qs :: Sl 25 (.slice (some ⟨gb, go, none⟩) 1 gc) [.slice ua ps.length uc] :: Sl 25 (.slice (some ⟨hb, ho, none⟩) 1 hc) [.slice va qs.length vc] :: [old w])) (fun _ _ kv _ => ps.length - (intOf kv).toNat)
                  case atStart => exact ⟨0, by omega, rfl, h6⟩
                  case round =>
                    clear h5 h6
                    obtain ⟨k, hk, rfl, h7⟩ := hrel
                    obtain ⟨xa, xc, rfl, x1, x2⟩ := SlB.valn h7
                    obtain ⟨ya, yc, rfl, y1, y2⟩ := SlB.valn (SatL.pull h7 1 : SatL wr (SlB _ _ _ :: _))
                    by_cases hkn : k < ps.length
                    · have hgk : k < gs.length := by omega
                      have e1 := hid (flatTo_succ (ps := ps) hkn)
                      have e2 := hid (flatTo_succ (ps := gs) hgk)
                      have n1 := flatTo_len Ht4.out k
                      have n2 := flatTo_len Ht3.out k
                      have n3 := Ht4.out _ (List.getElem_mem hkn)
                      have n4 := Ht3.out _ (List.getElem_mem hgk)
                      have pg : gs[k]? = some gs[k] := List.getElem?_eq_getElem hgk
                      have pp : ps[k]? = some ps[k] := List.getElem?_eq_getElem hkn
                      obtain ⟨b', o', rfl, _⟩ := (PutsR.rdpts (SatL.pull h7 2 : SatL wr (PutsR _ _ :: _))).1.at (by omega)
                      obtain ⟨b2', o2', rfl, _⟩ := (PutsR.rdpts (SatL.pull h7 3 : SatL wr (PutsR _ _ :: _))).1.at (by omega)
                      obtain ⟨v1, c1, ev1, i1, i2⟩ := PutsR.ptsl (SatL.pull h7 2 : SatL wr (PutsR _ _ :: _)) _ (List.getElem_mem hgk)
                      obtain ⟨v2, c2, ev2, i3, i4⟩ := PutsR.ptsl (SatL.pull h7 3 : SatL wr (PutsR _ _ :: _)) _ (List.getElem_mem hkn)
                      have d1 := fun (w' : World) (L : List HP) (h : SatL w' (PutsR (.slice (some ⟨b', o', none⟩) ps.length gcc) gs :: L)) => RdPts.cell2 (PutsR.rdpts h) pg
                      have d2 := fun (w' : World) (L : List HP) (h : SatL w' (PutsR (.slice (some ⟨b2', o2', none⟩) ps.length uc) ps :: L)) => RdPts.cell2 (PutsR.rdpts h) pp
                      have s1 := fun (w' : World) (L : List HP) (h : SatL w' (PutsR (.slice (some ⟨b', o', none⟩) ps.length gcc) gs :: L)) => SrcOk.ofRdB (PutsR.rdb h (List.getElem_mem hgk))
                      have s2 := fun (w' : World) (L : List HP) (h : SatL w' (PutsR (.slice (some ⟨b2', o2', none⟩) ps.length uc) ps :: L)) => SrcOk.ofRdB (PutsR.rdb h (List.getElem_mem hkn))
                      rw [Ht2.out k hgk hkn, ev1] at d1
                      rw [ev2] at d2
                      rw [ev1] at s1
                      rw [ev2] at s2
                      obtain ⟨k1, k2⟩ := d1 _ _ (SatL.pull h7 2 : SatL wr (PutsR _ _ :: _))
                      obtain ⟨k3, k4⟩ := d2 _ _ (SatL.pull h7 3 : SatL wr (PutsR _ _ :: _))
                      have hkz : (k : Int) < (ps.length : Int) := by omega
                      generalize flatTo ps k = A3 at *
                      generalize flatTo gs k = A4 at *
                      generalize ps[k].b = bk at *
                      generalize ps[k].d = dp at *
                      generalize gs[k].d = dg at *
                      clear pg pp ev1 ev2
                      have l1 : ((bvs A3).length + dp.length) * 1 ≤ 140737488355328 := by rw [bvs_len]; omega
                      have l2 : ((bvs A4).length + dg.length) * 1 ≤ 140737488355328 := by rw [bvs_len]; omega
                      have l3 : (bvs A3).length + dp.length ≤ maxLen := by unfold maxLen; omega
                      have l4 : (bvs A4).length + dg.length ≤ maxLen := by unfold maxLen; omega
                      clear n1 n2 n3 n4
                      go_wp2
                      go_region
                      have h7 := sat_drew.2 h7
                      have q1 := s2 _ _ (SatL.pull h7 3 : SatL wr.drew (PutsR _ _ :: _))
                      obtain ⟨k5, k6⟩ := d2 _ _ (SatL.pull h7 3 : SatL wr.drew (PutsR _ _ :: _))
                      have t1 : True := trivial
                      go_wp2_with (first
                        | (have _t := t1; at_builtin; refine wpList_append_sl rfl (.tmp 177) (.tmp 182) rfl elem_byte rfl (Sl.toK h7 rfl) rfl q1 (bvs_one _) l1 l3 ?_; intro v5 w5 h8 _; clear t1; have h9 := (SatL.pull (SlB.app (Sl.ofK h8)) 1 : SatL w5 (SlB _ _ _ :: _)); obtain ⟨j1, j2⟩ := d1 _ _ (SatL.pull h9 2 : SatL w5 (PutsR _ _ :: _)); have q2 := s1 _ _ (SatL.pull h9 2 : SatL w5 (PutsR _ _ :: _)); have t2 : True := trivial)
                        | (have _t := t2; at_builtin; refine wpList_append_sl rfl (.tmp 184) (.tmp 189) rfl elem_byte rfl (Sl.toK h9 rfl) rfl q2 (bvs_one _) l2 l4 ?_; intro v6 w6 h10 _; clear t2; have h11 := (SatL.pull (SlB.app (Sl.ofK h10)) 1 : SatL w6 (SlB _ _ _ :: _))))
                      go_roundw
                      case rel => exact ⟨k + 1, by omega, by go_num, by rw [e1.out, e2.out]; exact h11⟩
                      case measure => simp [intOf]; omega
                    · obtain rfl : k = ps.length := by omega
                      have e5 := Ht5.out
                      rw [t1] at e5
                      obtain ⟨xb, xo, rfl, _⟩ := (PutsR.rdpts (SatL.pull h7 8 : SatL wr (PutsR _ _ :: _))).1.at (by omega)
                      obtain ⟨yb, yo, rfl, _⟩ := (PutsR.rdpts (SatL.pull h7 7 : SatL wr (PutsR _ _ :: _))).1.at (by omega)
                      have d1 := (RdPts.cell2 (PutsR.rdpts (SatL.pull h7 8 : SatL wr (PutsR _ _ :: _))) Hx0.out).2
                      have d2 := (RdPts.cell2 (PutsR.rdpts (SatL.pull h7 7 : SatL wr (PutsR _ _ :: _))) Hy0.out).2
                      simp only [Nat.zero_mul, Nat.add_zero] at d1 d2
                      have hrdx : ∀ (w' : World) (L : List HP), SatL w' (PutsR (.slice (some ⟨xb, xo, none⟩) xs.length oc) xs :: L) → RdB xv (headB 1 P) w' := fun w' L h => PutsR.rdb h Hxm.out
                      have hrdy : ∀ (w' : World) (L : List HP), SatL w' (PutsR (.slice (some ⟨yb, yo, none⟩) ys.length oc2) ys :: L) → RdB yv (headB 2 Q) w' := fun w' L h => PutsR.rdb h Hym.out
                      have Hx9 := (hrdx _ _ (SatL.pull h7 8 : SatL wr (PutsR _ _ :: _))).valn
                      have Hy9 := (hrdy _ _ (SatL.pull h7 7 : SatL wr (PutsR _ _ :: _))).valn
                      clear Hx0 Hy0 Hxm Hym
                      obtain ⟨ha1, hc1, rfl, i1, i2⟩ := Hx9
                      obtain ⟨ha2, hc2, rfl, i3, i4⟩ := Hy9
                      have hl512 := headB_len (seq := 1) (l := P) (by omega)
                      have n1 := flatTo_len Ht4.out ps.length
                      have n2 := flatTo_len Ht3.out ps.length
                      generalize flatTo ps ps.length = A3 at *
                      generalize flatTo gs ps.length = A4 at *
                      generalize hHB : headB 1 P = HB at *
                      have E5 := hid e5
                      have hHl : HB.length ≤ 1000000000 := by omega
                      have l1 : ((bvs HB).length + A3.length) * 1 ≤ 140737488355328 := by rw [bvs_len]; omega
                      have l2 : ((bvs HB).length + A4.length) * 1 ≤ 140737488355328 := by rw [bvs_len]; omega
                      have l3 : (bvs HB).length + A3.length ≤ maxLen := by unfold maxLen; omega
                      have l4 : (bvs HB).length + A4.length ≤ maxLen := by unfold maxLen; omega
                      have hr1 := hrdx _ _ (SatL.pull h7 8 : SatL wr (PutsR _ _ :: _))
                      clear e5 hkn hl512 n1 n2
                      have t1 : True := trivial
                      go_wp2_with (first
                        | (have _t := t1; at_builtin; refine wpList_appnew (nb := wr.heap.size) rfl rfl (.tmp 201) (.tmp 202) rfl rfl rfl h7 hr1 hHl ?_; intro v5 w5 h8; clear t1; have q1 := SrcOk.ofRdB (SlB.rd (SatL.pull h8 1 : SatL w5 (SlB _ _ _ :: _))); have t2 : True := trivial)
                        | (have _t := t2; at_builtin; refine wpList_append_sl rfl (.tmp 203) (.tmp 204) rfl elem_byte rfl (Sl.toK h8 rfl) rfl q1 (bvs_one _) l1 l3 ?_; intro v6 w6 h9 _; clear t2; have h10 := SlB.app (Sl.ofK h9); have hk1 := refcrc_ok (SlB.rd h10); have t3 : True := trivial)
                        | (have _t := t3; go_at_call 20; (with_reducible refine hk1.mono ?_); rintro e w7 ⟨rfl, rfl⟩; clear t3; have h11 := SatL.tail h10; have hr2 := hrdx _ _ (SatL.pull h11 8 : SatL w6 (PutsR _ _ :: _)); have t4 : True := trivial)
                        | (have _t := t4; at_builtin; refine wpList_appnew (nb := w6.heap.size) rfl rfl (.tmp 207) (.tmp 208) rfl rfl rfl h11 hr2 hHl ?_; intro v8 w8 h12; clear t4; have q2 := SrcOk.ofRdB (SlB.rd (SatL.pull h12 2 : SatL w8 (SlB _ _ _ :: _))); have t5 : True := trivial)
                        | (have _t := t5; at_builtin; refine wpList_append_sl rfl (.tmp 209) (.tmp 210) rfl elem_byte rfl (Sl.toK h12 rfl) rfl q2 (bvs_one _) l2 l4 ?_; intro v9 w9 h13 _; clear t5; have h14 := SlB.app (Sl.ofK h13); have hk2 := refcrc_ok (SlB.rd h14); rw [← E5.out] at hk2; have t6 : True := trivial)
                        | (have _t := t6; go_at_call 20; (with_reducible refine hk2.mono ?_); rintro e w10 ⟨rfl, rfl⟩; clear t6))
                      go_ret
                      exact ⟨_, rfl, by simp, h14.to⟩
              · obtain ⟨gs0, hgs0⟩ : ∃ gs0 : List Pt, True := ⟨[], trivial⟩
                clear hgs0 gs0
                have Hr := hid hr
                have Hp := hid hp
                have Hc := hid hcr
                clear hr hp hcr
                have b1 : True := trivial
                go_upto_region 19 with (first
                  | (go_at_call 16; (with_reducible refine hlog.mono ?_); rintro e w1 ⟨v, rfl, h1⟩; have hrc := recover_ok (by rw [logB_len]; omega) h1 (fun w' h' => SlB.rd h'))
                  | (go_at_call 17; (with_reducible refine hrc.mono ?_); rintro e w2 ⟨r, rfl, ov, hr0, h2⟩; rw [Hr.out] at hr0 h2; obtain rfl : r = .tuple #[.int .u64 2, ov, .int .i64 0] := hr0; obtain ⟨gs, hgs, h3⟩ := sat_PutsL.1 h2; have Hgs := hid hgs; clear hgs h2))
                obtain ⟨t1, t2, t3, t4, t5⟩ := torn_got Hgs.out Hqs.out (by omega) Hr.out Hp.out (fun p hp => (OkQ.out.2 p hp).2.2) Hc.out
                have h4 := h3.bring [0, 9]
                clear h3 hlog hrc
                obtain ⟨ga, gcc, hov, g3, g4⟩ := (PutsR.rdpts h4).1.valn
                rw [t1] at hov
                subst hov
                have hsp := sameputs_ok h4
                have cA := Sl.cell (SatL.pull h4 10 : SatL w2 (Sl _ _ _ :: _)) (i := 0) rfl
                have cB := Sl.cell (SatL.pull h4 11 : SatL w2 (Sl _ _ _ :: _)) (i := 0) rfl
                rw [Nat.add_zero] at cA cB
                have Ht2 := hid t2
                have Ht3 := hid t3
                have Ht4 := hid t4
                clear t2 t3 t4
                by_cases hEq : pds gs = pds qs
                · rw [decide_eq_true hEq] at hsp
                  clear hEq t5
                  go_wp2_with (go_at_call 15; (with_reducible refine hsp.mono ?_); rintro e w3 ⟨v, rfl, rfl, h5⟩)
                  go_ret
                  exact ⟨_, rfl, rfl, h5.to⟩
                · rw [decide_eq_false hEq] at hsp
                  have Ht5 := hid t5
                  clear hEq t5
                  go_upto_region 29 with (go_at_call 15; (with_reducible refine hsp.mono ?_); rintro e w3 ⟨v, rfl, rfl, h5⟩; have cA2 := Sl.cell (SatL.pull h5 10 : SatL w3 (Sl _ _ _ :: _)) (i := 0) rfl; have cB2 := Sl.cell (SatL.pull h5 11 : SatL w3 (Sl _ _ _ :: _)) (i := 0) rfl; rw [Nat.add_zero] at cA2 cB2)
                  clear cA cB cA2 cB2 hsp h4
                  have h6 : SatL w3 (SlB 5 (.slice none 0 0) (flatTo qs 0) :: SlB 5 (.slice none 0 0) (flatTo gs 0) :: _) := Sl_nil (Sl_nil h5)
                  go_wp2
                  go_loopw [22, 23, 24] (fun ov tv kv wr => ∃ k : Nat, k ≤ qs.length ∧ kv = .int .i64 k ∧ SatL wr (SlB 5 ov (flatTo qs k) :: SlB 5 tv (flatTo gs k) :: PutsR (.slice ga qs.length gcc) gs :: PutsR (.slice va qs.length vc) qs :: SlB 5 v (logB (pds zs)) :: SlK 29 2 (.slice za zs.length zc) zs.length (pcells zs) :: SlK 29 2 (.slice ma ms.length mc) ms.length (pcells ms) :: PutsR (.slice oa2 ys.length oc2) ys :: PutsR (.slice oa xs.length oc) xs :: SlB 5 (.slice fa fn fc) (endB 2 Q) :: SlB 5 (.slice ea en ec) (endB 1 P) :: PutsR (.slice ua ps.length uc) ps :: Sl 25 (.slice (some ⟨gb, go, none⟩) 1 gc) [.slice ua ps.length uc] :: Sl 25 (.slice (some ⟨hb, ho, none⟩) 1 hc) [.slice va qs.length vc] :: [old w])) (fun _ _ kv _ => qs.length - (intOf kv).toNat)
                  case atStart => exact ⟨0, by omega, rfl, h6⟩
                  case round =>
                    clear h5 h6
                    obtain ⟨k, hk, rfl, h7⟩ := hrel
                    obtain ⟨xa, xc, rfl, x1, x2⟩ := SlB.valn h7
                    obtain ⟨ya, yc, rfl, y1, y2⟩ := SlB.valn (SatL.pull h7 1 : SatL wr (SlB _ _ _ :: _))
                    by_cases hkn : k < qs.length
                    · have hgk : k < gs.length := by omega
                      have e1 := hid (flatTo_succ (ps := qs) hkn)
                      have e2 := hid (flatTo_succ (ps := gs) hgk)
                      have n1 := flatTo_len Ht4.out k
                      have n2 := flatTo_len Ht3.out k
                      have n3 := Ht4.out _ (List.getElem_mem hkn)
                      have n4 := Ht3.out _ (List.getElem_mem hgk)
                      have pg : gs[k]? = some gs[k] := List.getElem?_eq_getElem hgk
                      have pp : qs[k]? = some qs[k] := List.getElem?_eq_getElem hkn
                      obtain ⟨b', o', rfl, _⟩ := (PutsR.rdpts (SatL.pull h7 2 : SatL wr (PutsR _ _ :: _))).1.at (by omega)
                      obtain ⟨b2', o2', rfl, _⟩ := (PutsR.rdpts (SatL.pull h7 3 : SatL wr (PutsR _ _ :: _))).1.at (by omega)
                      obtain ⟨v1, c1, ev1, i1, i2⟩ := PutsR.ptsl (SatL.pull h7 2 : SatL wr (PutsR _ _ :: _)) _ (List.getElem_mem hgk)
                      obtain ⟨v2, c2, ev2, i3, i4⟩ := PutsR.ptsl (SatL.pull h7 3 : SatL wr (PutsR _ _ :: _)) _ (List.getElem_mem hkn)
                      have d1 := fun (w' : World) (L : List HP) (h : SatL w' (PutsR (.slice (some ⟨b', o', none⟩) qs.length gcc) gs :: L)) => RdPts.cell2 (PutsR.rdpts h) pg
                      have d2 := fun (w' : World) (L : List HP) (h : SatL w' (PutsR (.slice (some ⟨b2', o2', none⟩) qs.length vc) qs :: L)) => RdPts.cell2 (PutsR.rdpts h) pp
                      have s1 := fun (w' : World) (L : List HP) (h : SatL w' (PutsR (.slice (some ⟨b', o', none⟩) qs.length gcc) gs :: L)) => SrcOk.ofRdB (PutsR.rdb h (List.getElem_mem hgk))
                      have s2 := fun (w' : World) (L : List HP) (h : SatL w' (PutsR (.slice (some ⟨b2', o2', none⟩) qs.length vc) qs :: L)) => SrcOk.ofRdB (PutsR.rdb h (List.getElem_mem hkn))
                      rw [Ht2.out k hgk hkn, ev1] at d1
                      rw [ev2] at d2
                      rw [ev1] at s1
                      rw [ev2] at s2
                      obtain ⟨k1, k2⟩ := d1 _ _ (SatL.pull h7 2 : SatL wr (PutsR _ _ :: _))
                      obtain ⟨k3, k4⟩ := d2 _ _ (SatL.pull h7 3 : SatL wr (PutsR _ _ :: _))
                      have hkz : (k : Int) < (qs.length : Int) := by omega
                      generalize flatTo qs k = A3 at *
                      generalize flatTo gs k = A4 at *
                      generalize qs[k].b = bk at *
                      generalize qs[k].d = dp at *
                      generalize gs[k].d = dg at *
                      clear pg pp ev1 ev2
                      have l1 : ((bvs A3).length + dp.length) * 1 ≤ 140737488355328 := by rw [bvs_len]; omega
                      have l2 : ((bvs A4).length + dg.length) * 1 ≤ 140737488355328 := by rw [bvs_len]; omega
                      have l3 : (bvs A3).length + dp.length ≤ maxLen := by unfold maxLen; omega
                      have l4 : (bvs A4).length + dg.length ≤ maxLen := by unfold maxLen; omega
                      clear n1 n2 n3 n4
                      go_wp2
                      go_region
                      have h7 := sat_drew.2 h7
                      have q1 := s2 _ _ (SatL.pull h7 3 : SatL wr.drew (PutsR _ _ :: _))
                      obtain ⟨k5, k6⟩ := d2 _ _ (SatL.pull h7 3 : SatL wr.drew (PutsR _ _ :: _))
                      have t1 : True := trivial
                      go_wp2_with (first
                        | (have _t := t1; at_builtin; refine wpList_append_sl rfl (.tmp 177) (.tmp 182) rfl elem_byte rfl (Sl.toK h7 rfl) rfl q1 (bvs_one _) l1 l3 ?_; intro v5 w5 h8 _; clear t1; have h9 := (SatL.pull (SlB.app (Sl.ofK h8)) 1 : SatL w5 (SlB _ _ _ :: _)); obtain ⟨j1, j2⟩ := d1 _ _ (SatL.pull h9 2 : SatL w5 (PutsR _ _ :: _)); have q2 := s1 _ _ (SatL.pull h9 2 : SatL w5 (PutsR _ _ :: _)); have t2 : True := trivial)
                        | (have _t := t2; at_builtin; refine wpList_append_sl rfl (.tmp 184) (.tmp 189) rfl elem_byte rfl (Sl.toK h9 rfl) rfl q2 (bvs_one _) l2 l4 ?_; intro v6 w6 h10 _; clear t2; have h11 := (SatL.pull (SlB.app (Sl.ofK h10)) 1 : SatL w6 (SlB _ _ _ :: _))))
                      go_roundw
                      case rel => exact ⟨k + 1, by omega, by go_num, by rw [e1.out, e2.out]; exact h11⟩
                      case measure => simp [intOf]; omega
                    · obtain rfl : k = qs.length := by omega
                      have e5 := Ht5.out
                      rw [t1] at e5
                      obtain ⟨xb, xo, rfl, _⟩ := (PutsR.rdpts (SatL.pull h7 8 : SatL wr (PutsR _ _ :: _))).1.at (by omega)
                      obtain ⟨yb, yo, rfl, _⟩ := (PutsR.rdpts (SatL.pull h7 7 : SatL wr (PutsR _ _ :: _))).1.at (by omega)
                      have d1 := (RdPts.cell2 (PutsR.rdpts (SatL.pull h7 8 : SatL wr (PutsR _ _ :: _))) Hx0.out).2
                      have d2 := (RdPts.cell2 (PutsR.rdpts (SatL.pull h7 7 : SatL wr (PutsR _ _ :: _))) Hy0.out).2
                      simp only [Nat.zero_mul, Nat.add_zero] at d1 d2
                      have hrdx : ∀ (w' : World) (L : List HP), SatL w' (PutsR (.slice (some ⟨xb, xo, none⟩) xs.length oc) xs :: L) → RdB xv (headB 1 P) w' := fun w' L h => PutsR.rdb h Hxm.out
                      have hrdy : ∀ (w' : World) (L : List HP), SatL w' (PutsR (.slice (some ⟨yb, yo, none⟩) ys.length oc2) ys :: L) → RdB yv (headB 2 Q) w' := fun w' L h => PutsR.rdb h Hym.out
                      have Hx9 := (hrdx _ _ (SatL.pull h7 8 : SatL wr (PutsR _ _ :: _))).valn
                      have Hy9 := (hrdy _ _ (SatL.pull h7 7 : SatL wr (PutsR _ _ :: _))).valn
                      clear Hx0 Hy0 Hxm Hym
                      obtain ⟨ha1, hc1, rfl, i1, i2⟩ := Hx9
                      obtain ⟨ha2, hc2, rfl, i3, i4⟩ := Hy9
                      have hl512 := headB_len (seq := 2) (l := Q) (by omega)
                      have n1 := flatTo_len Ht4.out qs.length
                      have n2 := flatTo_len Ht3.out qs.length
                      generalize flatTo qs qs.length = A3 at *
                      generalize flatTo gs qs.length = A4 at *
                      generalize hHB : headB 2 Q = HB at *
                      have E5 := hid e5
                      have hHl : HB.length ≤ 1000000000 := by omega
                      have l1 : ((bvs HB).length + A3.length) * 1 ≤ 140737488355328 := by rw [bvs_len]; omega
                      have l2 : ((bvs HB).length + A4.length) * 1 ≤ 140737488355328 := by rw [bvs_len]; omega
                      have l3 : (bvs HB).length + A3.length ≤ maxLen := by unfold maxLen; omega
                      have l4 : (bvs HB).length + A4.length ≤ maxLen := by unfold maxLen; omega
                      have hr1 := hrdy _ _ (SatL.pull h7 7 : SatL wr (PutsR _ _ :: _))
                      clear e5 hkn hl512 n1 n2
                      have t1 : True := trivial
                      go_wp2_with (first
                        | (have _t := t1; at_builtin; refine wpList_appnew (nb := wr.heap.size) rfl rfl (.tmp 201) (.tmp 202) rfl rfl rfl h7 hr1 hHl ?_; intro v5 w5 h8; clear t1; have q1 := SrcOk.ofRdB (SlB.rd (SatL.pull h8 1 : SatL w5 (SlB _ _ _ :: _))); have t2 : True := trivial)
                        | (have _t := t2; at_builtin; refine wpList_append_sl rfl (.tmp 203) (.tmp 204) rfl elem_byte rfl (Sl.toK h8 rfl) rfl q1 (bvs_one _) l1 l3 ?_; intro v6 w6 h9 _; clear t2; have h10 := SlB.app (Sl.ofK h9); have hk1 := refcrc_ok (SlB.rd h10); have t3 : True := trivial)
                        | (have _t := t3; go_at_call 20; (with_reducible refine hk1.mono ?_); rintro e w7 ⟨rfl, rfl⟩; clear t3; have h11 := SatL.tail h10; have hr2 := hrdy _ _ (SatL.pull h11 7 : SatL w6 (PutsR _ _ :: _)); have t4 : True := trivial)
                        | (have _t := t4; at_builtin; refine wpList_appnew (nb := w6.heap.size) rfl rfl (.tmp 207) (.tmp 208) rfl rfl rfl h11 hr2 hHl ?_; intro v8 w8 h12; clear t4; have q2 := SrcOk.ofRdB (SlB.rd (SatL.pull h12 2 : SatL w8 (SlB _ _ _ :: _))); have t5 : True := trivial)
                        | (have _t := t5; at_builtin; refine wpList_append_sl rfl (.tmp 209) (.tmp 210) rfl elem_byte rfl (Sl.toK h12 rfl) rfl q2 (bvs_one _) l2 l4 ?_; intro v9 w9 h13 _; clear t5; have h14 := SlB.app (Sl.ofK h13); have hk2 := refcrc_ok (SlB.rd h14); rw [← E5.out] at hk2; have t6 : True := trivial)
                        | (have _t := t6; go_at_call 20; (with_reducible refine hk2.mono ?_); rintro e w10 ⟨rfl, rfl⟩; clear t6))
                      go_ret
                      exact ⟨_, rfl, by simp, h14.to⟩
end Go.Proofs.Ytjjnadlklfegcaa
