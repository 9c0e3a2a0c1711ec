/- known and within of chapter 3's statements. No condition. -/
import Derived.Test.YtnniipeoahpkcaaVqM
import Derived.Test.YtnniipeoahpkcaaVqG
namespace Go.Proofs.Ytnniipeoahpkcaa
set_option linter.unusedVariables false
set_option linter.unusedSimpArgs false
open Go.RowKit
def wi (a : Int) (n : Nat) : Nat := (a % (n : Int)).toNat
theorem wi_lt (a : Int) {n : Nat} (hn : 0 < n) : wi a n < n := by
  unfold wi
  have h1 := Int.emod_nonneg a (show (n : Int) ≠ 0 by omega)
  have h2 := Int.emod_lt_of_pos a (show 0 < (n : Int) by omega)
  omega
section
variable {w : World} {L : List HP}
theorem within_ok (a : Int) {n : Nat} (hn : 0 < n ∧ n ≤ 1000000) (w : World) : Calls Try.prog 8 #[.int .i64 a, .int .i64 n] w (Ret fun r w' => r = .int .i64 (wi a n : Nat) ∧ w = w') := by
  have h1 := Int.tmod_lt_of_pos a (show 0 < (n : Int) by omega)
  have h2 := Int.lt_tmod_of_pos a (show 0 < (n : Int) by omega)
  have h3 : ((wi a n : Nat) : Int) = a % n := by
    unfold wi
    have := Int.emod_nonneg a (show (n : Int) ≠ 0 by omega)
    omega
  have hz : ¬ (n : Int) = 0 := by omega
  rw [h3]
  have h4 : a % n = if a.tmod n < 0 then a.tmod n + n else a.tmod n := by
    have e := Int.tmod_def a n
    split
    · rename_i hneg
      have : a % n = (a.tmod n + n) % n := by rw [Int.add_emod_right, e, Int.sub_mul_emod_self_left]
      rw [this, Int.emod_eq_of_lt (by omega) (by omega)]
    · rename_i hneg
      have : a % n = (a.tmod n) % n := by rw [e, Int.sub_mul_emod_self_left]
      rw [this, Int.emod_eq_of_lt (by omega) (by omega)]
  by_cases hneg : a.tmod n < 0
  · rw [if_pos hneg] at h4
    have Hq := hid h4
    clear h4 h3
    go_enter Try.func8, Try.ntmps8
    go_wp2
    go_ret
    exact Ret.mk ⟨by rw [Hq.out]; rfl, rfl⟩
  · rw [if_neg hneg] at h4
    have Hq := hid h4
    clear h4 h3
    go_enter Try.func8, Try.ntmps8
    go_wp2
    go_ret
    exact Ret.mk ⟨by rw [Hq.out]; rfl, rfl⟩
end
section
variable {w : World} {L : List HP}
theorem brow_cl {nb T : Nat} {l : List Bf} (hl : l.length ≤ 9223372036854775807) : Gives (cl nb T (bufV l).toArray :: L) (BRow (some ⟨nb, 0, none⟩) l) := by
  intro w' h
  refine ⟨hl, fun h0 => ⟨nb, 0, rfl, fun i x hx => ?_⟩⟩
  obtain ⟨g1, g2, g3⟩ := bufV_get hx
  refine ⟨?_, ?_, ?_⟩
  · rw [Nat.zero_add]; exact SatL.cell h (by simpa using g1)
  · rw [Nat.zero_add]; exact SatL.cell h (by simpa using g2)
  · rw [Nat.zero_add]; exact SatL.cell h (by simpa using g3)
set_option maxRecDepth 100000 in
set_option maxHeartbeats 4000000 in
theorem known_ok (h : SatL w L) : Calls Try.prog 7 #[] w (Ret fun r w' => r = .bool true ∧ SatL w' L) := by
  have hz := hid (bvs_zeros 200)
  have hq4 : qs 4 = 112 := rfl
  have k1 : Hid (∀ (w' : World) (mb : Nat) (L' : List HP), SatL w' (SlB 5 (.slice (some ⟨mb, 0, none⟩) 200 200) (List.replicate 200 0) :: L') →
      Calls Try.prog 10 #[.slice (some ⟨mb, 0, none⟩) 200 200, .int .i64 0, .int .i64 4] w' (Ret fun r w'' => ∃ db, r = .tuple #[.pointer (some ⟨db, 0, none⟩), .int .i64 0] ∧ SatL w'' (DrvR db mb 0 (Dr.new 0 4) :: SlB 5 (.slice (some ⟨mb, 0, none⟩) 200 200) kM :: L'))) :=
    hid (fun w' mb L' h => newdrv_ok (base := 0) (n := 4) (by decide) (by rw [List.length_replicate, hq4]; omega) (by rw [List.length_replicate]; omega) h)
  have k2 : Hid (∀ (w' : World) (mb : Nat) (L' : List HP), SatL w' L' →
      Calls Try.prog 11 #[.slice (some ⟨mb, 0, none⟩) 200 200, .int .i64 0, .int .i64 4] w' (Ret fun r w'' => ∃ vb, r = .tuple #[.pointer (some ⟨vb, 0, none⟩), .int .i64 0] ∧ SatL w'' (DevR vb mb 0 ⟨0, 4, 0, 0⟩ :: L'))) :=
    hid (fun w' mb L' h => newdev_ok (base := 0) (n := 4) (by decide) (by rw [hq4]; omega) (by omega) (by omega) h)
  have hml := kM_len
  have hkb : kM.length ≤ 1000000 := by omega
  have hA := add_keeps (d := Dr.new 0 4) (m := kM) (l := kL) k_ok.1
  have hG := give_keeps (r := kT.2) (m := kA.m) (h := 0) (l := 513) (by rw [show kA.m.length = kM.length from hA.2]; exact take_keeps k_ok.2)
  have hT : RgOk kT.2 kA.m.length := by rw [show kA.m.length = kM.length from hA.2]; exact take_keeps k_ok.2
  have hGm : kG.m.length = kM.length := hG.2.trans hA.2
  have hU : DrOk kA.d kG.m.length := by rw [hGm]; exact hA.1
  have hUd : DrOk kU.d kG.m.length := used_keeps hU
  have hAm : kA.m.length = kM.length := hA.2
  have k3 : Hid (∀ (w' : World) (nb db mb : Nat) (L' : List HP), SatL w' (DrvR db mb 0 (Dr.new 0 4) :: SlB 5 (.slice (some ⟨mb, 0, none⟩) 200 200) kM :: cl nb 36 #[.int .i64 100, .int .i64 16, .bool false, .int .i64 200, .int .i64 512, .bool true] :: L') →
      Calls Try.prog 12 #[.pointer (some ⟨db, 0, none⟩), .slice (some ⟨nb, 0, none⟩) 2 2] w' (Ret fun r w'' => r = .tuple #[.int .i64 0, .int .i64 0] ∧ SatL w'' (DrvR db mb 0 kA.d :: SlB 5 (.slice (some ⟨mb, 0, none⟩) 200 200) kA.m :: L'))) :=
    hid (fun w' nb db mb L' h => by
      refine (add_ok (l := kL) (cc := 2) k_ok.1 hkb h (by intro x hx; simp [kL] at hx; rcases hx with rfl | rfl <;> decide) (brow_cl (l := kL) (by decide))).mono ?_
      rintro e w2 ⟨v, rfl, rfl, h2⟩
      have e1 : ((Dr.new 0 4).add kM kL).h = 0 := k_facts.1
      have e2 : ((Dr.new 0 4).add kM kL).e = 0 := k_facts.2.1
      exact Ret.mk ⟨by rw [e1, e2]; rfl, SatL.tail (h2.bring [2, 0, 1])⟩)
  have hcb : Hid (∀ (w' : World) (L' : List HP) (b off c : Nat), SatL w' (BufR (.slice (some ⟨b, off, none⟩) 2 c) kT.1.l :: L') → w'.cell? ⟨b, off + 5, none⟩ = some (.bool true)) := hid (fun w' L' b off c h => by
    obtain ⟨_, _, _, f2, f3, _⟩ := k_facts
    obtain ⟨x, hx, hw⟩ := Option.map_eq_some_iff.1 f3
    have h' : SatL w' (SlK 36 3 (.slice (some ⟨b, off, none⟩) 2 c) 2 (bufV kT.1.l) :: L') := by have e : SatL w' (SlK _ _ _ _ _ :: _) := h; rw [f2] at e; exact e
    have hc := SlK.cell h' (bufV_get hx).2.2
    rw [hw] at hc; exact hc)
  have k4 : Hid (∀ (w' : World) (vb mb : Nat) (L' : List HP), SatL w' (DevR vb mb 0 ⟨0, 4, 0, 0⟩ :: SlB 5 (.slice (some ⟨mb, 0, none⟩) 200 200) kA.m :: L') →
      Calls Try.prog 13 #[.pointer (some ⟨vb, 0, none⟩)] w' (Ret fun r w'' => ∃ b c off, r = .tuple #[.int .i64 0, .slice (some ⟨b, off, none⟩) 2 c, .int .i64 0] ∧ w''.cell? ⟨b, off + 5, none⟩ = some (.bool true) ∧ 2 ≤ c ∧ c ≤ 9223372036854775807 ∧ SatL w'' (BufR (.slice (some ⟨b, off, none⟩) 2 c) kT.1.l :: DevR vb mb 0 kT.2 :: SlB 5 (.slice (some ⟨mb, 0, none⟩) 200 200) kA.m :: L'))) :=
    hid (fun w' vb mb L' h => by
      refine (take_ok (r := ⟨0, 4, 0, 0⟩) (by rw [hAm]; exact k_ok.2) (by rw [hAm]; exact hkb) h).mono ?_
      rintro e w2 ⟨v, rfl, lv, rfl, h2⟩
      obtain ⟨_, _, f1, f2, f3, f4, _⟩ := k_facts
      have h3 : SatL w2 (BufR lv kT.1.l :: DevR vb mb 0 kT.2 :: SlB 5 (.slice (some ⟨mb, 0, none⟩) 200 200) kA.m :: L') := h2
      have e1 : ((⟨0, 4, 0, 0⟩ : Ring).take kA.m).1.head = 0 := f1
      have e2 : ((⟨0, 4, 0, 0⟩ : Ring).take kA.m).1.e = 0 := f4
      obtain ⟨a, c, rfl, c1, c2⟩ := SlK.valn h3
      rw [f2] at h3 c1
      rcases SlK.form h3 with ⟨_, h0, _⟩ | ⟨b, off, cc, hv, _⟩
      · omega
      cases hv
      obtain ⟨x, hx, hw⟩ := Option.map_eq_some_iff.1 f3
      have hc := SlK.cell h3 (bufV_get hx).2.2
      rw [hw] at hc
      refine Ret.mk ⟨b, c, off, by rw [e1, e2, f2]; rfl, hc, c1, c2, ?_⟩
      show SatL w2 (SlK _ _ _ _ _ :: _)
      rw [f2]; exact h3)
  have k5 : Hid (∀ (w' : World) (vb mb : Nat) (L' : List HP), SatL w' (DevR vb mb 0 kT.2 :: SlB 5 (.slice (some ⟨mb, 0, none⟩) 200 200) kA.m :: L') →
      Calls Try.prog 14 #[.pointer (some ⟨vb, 0, none⟩), .int .i64 0, .int .i64 513] w' (Ret fun r w'' => r = .int .i64 0 ∧ SatL w'' (DevR vb mb 0 kG.r :: SlB 5 (.slice (some ⟨mb, 0, none⟩) 200 200) kG.m :: L'))) :=
    hid (fun w' vb mb L' h => by
      refine (give_ok (h := 0) (l := 513) hT (by omega) h).mono ?_
      rintro e w2 ⟨v, rfl, rfl, h2⟩
      have e1 : (kT.2.give kA.m 0 513).e = 0 := k_facts.2.2.2.2.2.2.1
      exact Ret.mk ⟨by rw [e1], h2⟩)
  have k6 : Hid (∀ (w' : World) (db mb : Nat) (L' : List HP), SatL w' (DrvR db mb 0 kA.d :: SlB 5 (.slice (some ⟨mb, 0, none⟩) 200 200) kG.m :: L') →
      Calls Try.prog 15 #[.pointer (some ⟨db, 0, none⟩)] w' (Ret fun r w'' => r = .tuple #[.int .i64 0, .int .i64 513, .int .i64 0] ∧ SatL w'' (DrvR db mb 0 kU.d :: SlB 5 (.slice (some ⟨mb, 0, none⟩) 200 200) kG.m :: L'))) :=
    hid (fun w' db mb L' h => by
      refine (used_ok hU h).mono ?_
      rintro e w2 ⟨v, rfl, rfl, h2⟩
      obtain ⟨_, _, _, _, _, _, _, f1, f2, f3, _⟩ := k_facts
      have e1 : (kA.d.used kG.m).h = 0 := f1
      have e2 : (kA.d.used kG.m).l = 513 := f2
      have e3 : (kA.d.used kG.m).e = 0 := f3
      exact Ret.mk ⟨by rw [e1, e2, e3]; rfl, h2⟩)
  have k7 : Hid (∀ (w' : World) (db mb : Nat) (L' : List HP), SatL w' (DrvR db mb 0 kU.d :: L') →
      Calls Try.prog 16 #[.pointer (some ⟨db, 0, none⟩)] w' (Ret fun r w'' => r = .int .i64 4 ∧ w' = w'')) :=
    hid (fun w' db mb L' h => by
      have := free_eq hUd h
      rw [show free kU.d.busy = 4 from k_facts.2.2.2.2.2.2.2.2.2.2] at this
      exact this)
  clear hA hG hT hGm hU hUd hAm hkb hml hq4
  go_enter Try.func7, Try.ntmps7
  go_wp2_with (first
    | (refine wpList_make_sl rfl (.const (.int .i64 200)) (.const (.int .i64 200)) rfl elem_byte 200 rfl rfl h (by omega) (by omega) ?_; intro w1 h1; rw [← hz.out] at h1)
    | (go_at_call 10; (with_reducible refine (k1.out _ _ _ h1).mono ?_); rintro e w2 ⟨v, rfl, db, rfl, h2⟩)
    | (go_at_call 11; (with_reducible refine (k2.out _ _ _ h2).mono ?_); rintro e w3 ⟨v, rfl, vb, rfl, h3⟩; have h4 := (h3.alloc (.cells #[.int .i64 100, .int .i64 16, .bool false, .int .i64 200, .int .i64 512, .bool true] 36)).bring [2, 3, 0, 1])
    | (go_at_call 12; (with_reducible refine (k3.out _ _ _ _ _ h4).mono ?_); rintro e w4 ⟨v, rfl, rfl, h5⟩; have h6 := h5.bring [2, 1, 0])
    | (go_at_call 13; (with_reducible refine (k4.out _ _ _ _ h6).mono ?_); rintro e w5 ⟨v, rfl, tb, tc, toff, rfl, ct, tc1, tc2, h7⟩; have h8 := SatL.tail h7)
    | (go_at_call 14; (with_reducible refine (k5.out _ _ _ _ (h7.bring [1, 2, 0])).mono ?_); rintro e w6 ⟨v, rfl, rfl, h9⟩)
    | (go_at_call 15; (with_reducible refine (k6.out _ _ _ _ (h9.bring [3, 1, 0, 2])).mono ?_); rintro e w7 ⟨v, rfl, rfl, h10⟩; have h11 := k7.out _ _ _ _ h10; have ct2 := hcb.out _ _ _ _ _ (h10.pull 3 : SatL _ (SlK _ _ _ _ _ :: _)))
    | (go_at_call 16; (with_reducible refine h11.mono ?_); rintro e w8 ⟨v, rfl, rfl, rfl⟩))
  go_ret
  exact Ret.mk ⟨rfl, SatL.tail (SatL.tail (SatL.tail (SatL.tail h10)))⟩
end
end Go.Proofs.Ytnniipeoahpkcaa
