/- The chapter's example holds. -/
import Derived.Test.YtjjnadlklfegcaaLaw8C
import Derived.Test.YtjjnadlklfegcaaRecov
import Derived.Test.YtjjnadlklfegcaaAppKeep
namespace Go.Proofs.Ytjjnadlklfegcaa
set_option linter.unusedVariables false
set_option linter.unusedSimpArgs false
open Go.RowKit

section
variable {w : World} {l : List HP}
theorem kept_all {v v' : Value} {qs : List Pt} {pe : Pt} (hl : qs.length ≤ 1000) (h : KeptBy 29 2 v qs.length (pcells qs) v' (qs.length + 1) (pcells qs ++ [.int .i64 pe.b, pe.v]) (big (fun p : Pt => SlB 5 p.v p.d) qs :: SlB 5 pe.v pe.d :: l) w) :
    Calls Try.prog 16 #[v'] w (Ret fun r w' => KeptBy 29 2 v qs.length (pcells qs) v' (qs.length + 1) (pcells qs ++ [.int .i64 pe.b, pe.v]) (SlB 5 r (logB (pds qs ++ [(pe.b, pe.d)])) :: big (fun p : Pt => SlB 5 p.v p.d) qs :: SlB 5 pe.v pe.d :: l) w') := by
  have bk : ∀ (w' : World) (L : List HP), SatL w' (PutsR v' (qs ++ [pe]) :: L) → SatL w' (SlK 29 2 v' (qs.length + 1) (pcells qs ++ [.int .i64 pe.b, pe.v]) :: big (fun p : Pt => SlB 5 p.v p.d) qs :: SlB 5 pe.v pe.d :: L) := by
    intro w' L h
    have h2 := sat_PutsR.1 h
    rw [pcells_snoc, List.length_append] at h2
    have h3 : SatL w' (big (fun p : Pt => SlB 5 p.v p.d) (qs ++ pe :: []) :: _) := h2.swap
    have h4 := big_mid.1 h3
    rw [List.append_nil] at h4
    exact h4.bring [2, 1, 0]
  rcases h with h | ⟨b, off, cap, hv, hv', hc, h⟩
  · have h2 := PutsL.snoc (ps := qs) (b := pe.b) (u := pe.v) (d := pe.d) (h.bring [0, 2, 3])
    refine (log_ok (by simp; omega) h2).mono ?_
    rintro e w' ⟨r, rfl, h3⟩
    rw [pds_snoc] at h3
    have h4 := bk w' _ h3.swap
    exact ⟨r, rfl, .inl (h4.bring [0, 4, 3, 1, 2])⟩
  · have h2 := PutsL.snoc (ps := qs) (b := pe.b) (u := pe.v) (d := pe.d) h
    refine (log_ok (by simp; omega) h2).mono ?_
    rintro e w' ⟨r, rfl, h3⟩
    rw [pds_snoc] at h3
    have h4 := bk w' _ h3.swap
    exact ⟨r, rfl, .inr ⟨b, off, cap, hv, hv', hc, h4.bring [0, 3, 1, 2]⟩⟩
theorem kept_old {v v' : Value} {qs : List Pt} {n' : Nat} {rest : List Value} (hl : qs.length ≤ 1000) (hn : qs.length ≤ n') (h : KeptBy 29 2 v qs.length (pcells qs) v' n' (pcells qs ++ rest) (big (fun p : Pt => SlB 5 p.v p.d) qs :: l) w) :
    Calls Try.prog 16 #[v] w (Ret fun r w' => SatL w' (SlB 5 r (logB (pds qs)) :: PutsR v qs :: l)) := by
  have hp : SatL w (PutsR v qs :: l) := by
    rcases h with h | ⟨b, off, cap, hv, hv', hc, h⟩
    · exact sat_PutsR.2 h.tail
    · subst hv hv'
      have h2 := SlK.slice h (i := 0) (j := qs.length) (by omega) hn
      simp only [Nat.zero_mul, Nat.add_zero, Nat.sub_zero, List.drop_zero] at h2
      rw [show (pcells qs ++ rest).take (qs.length * 2) = pcells qs by rw [← pcells_len]; exact List.take_left] at h2
      exact sat_PutsR.2 h2
  exact log_ok (by omega) hp
theorem kept_recov {T k n n' : Nat} {v v' rv : Value} {xs xs' : List Value} {bs : List UInt8} (hl : bs.length ≤ 1000000) (h : KeptBy T k v n xs v' n' xs' (SlB 5 rv bs :: l) w) :
    Calls Try.prog 17 #[rv] w (Ret fun r w' => ∃ ov, r = .tuple #[.int .u64 ((recov bs).1 : Nat), ov, .int .i64 (recov bs).2.2] ∧ KeptBy T k v n xs v' n' xs' (PutsL ov (recov bs).2.1 :: l) w') := by
  rcases h with h | ⟨b, off, cap, hv, hv', hc, h⟩
  · refine (recover_ok hl h (fun w' h' => SlB.rd (h'.pull 2 : SatL w' (SlB _ _ _ :: _)))).mono ?_
    rintro e w' ⟨r, rfl, ov, rfl, h2⟩
    exact ⟨_, rfl, ov, rfl, .inl (SatL.tail (h2.bring [3, 1, 2, 0]))⟩
  · refine (recover_ok hl h (fun w' h' => SlB.rd (h'.pull 1 : SatL w' (SlB _ _ _ :: _)))).mono ?_
    rintro e w' ⟨r, rfl, ov, rfl, h2⟩
    exact ⟨_, rfl, ov, rfl, .inr ⟨b, off, cap, hv, hv', hc, SatL.tail (h2.bring [2, 1, 0])⟩⟩
theorem KeptBy.perm {T k n n' : Nat} {v v' : Value} {xs xs' : List Value} {l' : List HP} (h : KeptBy T k v n xs v' n' xs' l w) (p : l.Perm l') : KeptBy T k v n xs v' n' xs' l' w := by
  rcases h with h | ⟨b, off, cap, hv, hv', hc, h⟩
  · exact .inl (h.perm ((p.cons _).cons _))
  · exact .inr ⟨b, off, cap, hv, hv', hc, h.perm (p.cons _)⟩
theorem KeptBy.tail {T k n n' : Nat} {v v' : Value} {xs xs' : List Value} {X : HP} (h : KeptBy T k v n xs v' n' xs' (X :: l) w) : KeptBy T k v n xs v' n' xs' l w := by
  rcases h with h | ⟨b, off, cap, hv, hv', hc, h⟩
  · exact .inl (SatL.tail (h.bring [2, 0, 1]))
  · exact .inr ⟨b, off, cap, hv, hv', hc, SatL.tail h.swap⟩

theorem kept_len {T : Nat} {v v9 a b : Value} {qs : List Pt} {X : HP} (hql : qs.length = 2) (h : KeptBy T 2 v 2 (pcells qs) v9 (2 + 1) (pcells qs ++ (#[a, b] : Array Value).toList) (X :: l) w) : KeptBy T 2 v qs.length (pcells qs) v9 (qs.length + 1) (pcells qs ++ [a, b]) l w := by
  rw [hql]; exact h.tail
theorem kept_l1 {v v9 pv : Value} {qs : List Pt} {X : HP} {d : List UInt8} {R : List PD} (hql : qs.length = 2) (hq : pds qs = R) (h : KeptBy 29 2 v 2 (pcells qs) v9 (2 + 1) (pcells qs ++ (#[.int .i64 2, pv] : Array Value).toList) (X :: big (fun p : Pt => SlB 5 p.v p.d) qs :: SlB 5 pv d :: l) w) :
    Calls Try.prog 16 #[v9] w (Ret fun r w' => KeptBy 29 2 v qs.length (pcells qs) v9 (qs.length + 1) (pcells qs ++ [.int .i64 2, pv]) (SlB 5 r (logB (R ++ [(2, d)])) :: big (fun p : Pt => SlB 5 p.v p.d) qs :: SlB 5 pv d :: l) w') := by
  have h9 := kept_len hql h
  have := kept_all (pe := ⟨2, pv, d⟩) (by omega) h9
  rw [hq] at this
  exact this
/-- the group of the example -/
def kg : List PD := [(9, putB 512 1)]
theorem kg_err : recErr kg = 0 := by
  have hl : (putB 512 1).length = 512 := putB_len _ _
  unfold recErr kg
  rw [if_neg (by simp), if_neg (by simp)]
  unfold recScan
  have hs : soundE ((9 : Int), putB 512 1) = 0 := by unfold soundE; rw [if_neg (by omega), if_neg (by simp [hl])]
  rw [hs]
  simp [recScan]
theorem kg_rows : (recRows 5 kg).length = 2 := by simp [recRows, inRow_len, kg]
theorem kg_last : recLast 5 kg = (2, endB 5 kg) := by unfold recLast; rw [if_pos kg_err]; rfl
theorem kg_out : recOut 5 kg = recRows 5 kg := by unfold recOut; rw [if_pos kg_err]

theorem record_kg {lv : Value} {p : Pt} {L : List HP} (hp : pds [p] = kg) (h : SatL w (PutsR lv [p] :: L)) :
    Calls Try.prog 13 #[.int .u64 5, lv] w (Ret fun r w' => ∃ oa oc qs ea ec, r = .tuple #[.slice oa 2 oc, .agg #[.int .i64 2, .slice ea 512 ec], .int .i64 0] ∧ qs.length = 2 ∧ pds qs = recRows 5 kg ∧
      SatL w' (PutsR (.slice oa 2 oc) qs :: SlB 5 (.slice ea 512 ec) (endB 5 kg) :: PutsR lv [p] :: L)) := by
  refine (record_ok (seq := 5) (by omega) (by simp) h).mono ?_
  rintro e w' ⟨v, rfl, ov, ev, rfl, h3⟩
  rw [hp, kg_out, kg_last] at h3
  obtain ⟨qs, hq, h4⟩ := sat_PutsL.1 h3
  have hql : qs.length = 2 := by rw [← pds_len, show pds qs = recRows 5 kg from hq, kg_rows]
  have h5 := sat_PutsR.1 h4
  rw [hql] at h5
  obtain ⟨oa, oc, rfl, q3, q4⟩ := SlK.valn h5
  have h6 : SatL w' (SlB 5 ev (endB 5 kg) :: _) := SatL.pull h5 2
  obtain ⟨ea, ec, rfl, q5, q6⟩ := Sl.valn h6 (m := 512) (by rw [bvs_len]; exact endOf_len _ _)
  exact ⟨_, rfl, oa, oc, qs, ea, ec, by rw [hp, kg_err, kg_last], hql, hq, h4⟩

set_option maxRecDepth 100000 in
set_option maxHeartbeats 4000000 in
theorem known_ok (h : SatL w l) : Calls Try.prog 11 #[] w (Ret fun r w' => r = .bool true ∧ SatL w' l) := by
  have hpu := put_ok (at_ := 9) (sz := 0) (b := 1) (by omega) h
  rw [show putN 0 = 512 from rfl, show ((1 : Nat) : Int) = 1 from rfl] at hpu
  have hrc := fun (w' : World) (lv : Value) (p : Pt) (L : List HP) (hp : pds [p] = kg) (h : SatL w' (PutsR lv [p] :: L)) => record_kg hp h
  have hR1 := recov_recorded (seq := 5) (l := kg) (by omega) kg_err
  have hR2 := recov_headless (seq := 5) (l := kg) kg_err
  rw [show recAll 5 kg = recRows 5 kg ++ [(2, endB 5 kg)] from rfl] at hR1
  have hel : (endB 5 kg).length = 512 := endOf_len _ _
  have hkg : kg = [(9, putB 512 1)] := rfl
  have hdl : (putB 512 1).length = 512 := putB_len _ _
  generalize putB 512 1 = d at *
  have HR1 := hid hR1
  have HR2 := hid hR2
  have Hel := hid hel
  have Hkg := hid hkg
  have Hdl := hid hdl
  clear hR1 hR2 hel hkg hdl
  have b9 : 0 < 32 := by omega
  have b3 : (2 + 1) * 32 ≤ 140737488355328 := by omega
  have t1 : True := trivial
  go_enter Try.func11, Try.ntmps11
  go_wp2_with (first
    | (go_at_call 24; (with_reducible refine hpu.mono ?_); rintro e w1 ⟨v, rfl, pa, pc, rfl, q1, q2, h1⟩; have h2 := PutsR.one (h1.alloc (.cells #[.int .i64 9, .slice pa 512 pc] 29)); have hp0 : pds [(⟨9, .slice pa 512 pc, d⟩ : Pt)] = kg := (by rw [Hkg.out]; rfl))
    | (go_at_call 13; (with_reducible refine (hrc _ _ _ _ hp0 h2).mono ?_); rintro e w2 ⟨v, rfl, oa, oc, qs, ea, ec, rfl, hql, hq, h4⟩; have h5 := sat_PutsR.1 h4; rw [hql] at h5; have Hql := hid hql; have Hq := hid hq; clear hql hq; have h7 := SatL.alloc h5 (.cells #[.int .i64 2, .slice ea 512 ec] 29); have h8 := SatL.bring h7 [1, 2, 3, 0])
    | (at_builtin; refine wpList_pushK_keep (v := .slice oa 2 oc) (n := 2) (xs := pcells qs) (nb := w2.heap.size + 1) (by simp) rfl (.tmp 33) (.tmp 35) rfl elem_put b9 rfl h8 rfl rfl (by simp [Value.oneCell']) b3 ?_; intro v9 w9 h9; have hl1 := kept_l1 Hql.out Hq.out h9; have t2 : True := trivial)
    | (have _t := t2; go_at_call 16; (with_reducible refine hl1.mono ?_); rintro e w10 ⟨v, rfl, h10⟩; clear t2 hl1; have hr1 := kept_recov (by rw [logB_len]; omega) h10; rw [HR1.out] at hr1; have t3 : True := trivial)
    | (have _t := t3; go_at_call 17; (with_reducible refine hr1.mono ?_); rintro e w11 ⟨v, rfl, ov, rfl, h11⟩; clear t3 hr1; have hl2 := kept_old (by rw [Hql.out]; omega) (by omega) (KeptBy.perm h11 (List.Perm.swap _ _ _)); rw [Hq.out] at hl2; have t4 : True := trivial)
    | (have _t := t4; go_at_call 16; (with_reducible refine hl2.mono ?_); rintro e w12 ⟨v, rfl, h12⟩; clear t4 hl2; have hr2 := recover_ok (by rw [logB_len]; omega) h12 (fun w' h' => SlB.rd h'); have t5 : True := trivial))
  (with_reducible refine hr2.mono ?_)
  rintro e w13 ⟨v, rfl, ov2, hov2, h13⟩
  rw [HR2.out] at hov2 h13
  subst hov2
  obtain ⟨ms, hms, h14⟩ := sat_PutsL.1 (SatL.pull h13 3 : SatL w13 (PutsL _ _ :: _))
  have hsame := sameputs_ok (show SatL w13 (PutsR ov ms :: PutsR _ [(⟨9, .slice pa 512 pc, d⟩ : Pt)] :: _) from SatL.bring h14 [0, 6])
  rw [decide_eq_true (show pds ms = pds [(⟨9, .slice pa 512 pc, d⟩ : Pt)] from hms.trans hp0.symm)] at hsame
  go_wp2_with (go_at_call 15; (with_reducible refine hsame.mono ?_); rintro e w15 ⟨v, rfl, rfl, h15⟩)
  go_ret
  exact ⟨_, rfl, rfl, h15.tail.tail.tail.tail.tail.tail.tail⟩
end
end Go.Proofs.Ytjjnadlklfegcaa
