/- the document's rpc: Answer. No condition beside the sizes. Printed by genans.py. -/
import Derived.Test.YtpecmkkcepnpeaaDoorRxQ
import Derived.Test.YtpecmkkcepnpeaaDoorRxC
namespace Go.Proofs.YtpecmkkcepnpeaaDoor
set_option linter.unusedVariables false
set_option linter.unusedSimpArgs false
open Go.RowKit
theorem saysR_bx (r : Rdr) : (saysR r).2.b = r.b := by
  unfold saysR
  split
  · simp only [Rdr.num_b]
  · split <;> simp only [Rdr.num_b]
theorem sayT2_bx (r : Rdr) : (sayT2 r).2.b = r.b := by
  unfold sayT2
  split
  · simp only [Rdr.num_b]
  · split
    · simp only [Rdr.num_b]
    · split
      · simp only [Rdr.num_b]
      · split
        · simp only [Rdr.num_b]
        · split <;> simp only [Rdr.num_b]
theorem rd3_bx (b : List UInt8) : (rd3 b).b = b := by unfold rd3; rw [Rdr.num_b]; exact rd2_b b
section
variable {w : World} {L : List HP}
set_option maxRecDepth 100000 in
set_option maxHeartbeats 8000000 in
theorem refanswer_ok {v : Value} {b : List UInt8} (hb : b.length ≤ 10000000) (h : SatL w L) (g : Gives L (RdV v b)) :
    Calls Tryd.prog 22 #[v] w (Ret (AnsPost L (answerL b))) := by
  rw [← refAns_eq]
  obtain ⟨a, c, rfl, g1, g2⟩ := (g w h).valn
  obtain ⟨bl, hbl⟩ : ∃ bl, b.length = bl := ⟨_, rfl⟩
  rw [hbl] at g g1 ⊢
  have Hb := h.alloc (.cells #[.slice a bl c, .int .i64 0, .int .i64 0] 114)
  have hr0 : SatL _ (RrR w.heap.size (.slice a bl c) (Rdr.new b) :: L) := sat_RrR.2 ⟨⟨Nat.zero_le _, by show b.length ≤ _; omega⟩, Hb⟩
  obtain ⟨r0, hr0e⟩ : ∃ r0, r0 = w.heap.size := ⟨_, rfl⟩
  have U := fun (r0 : Nat) (w' : World) (r : Rdr) (hr : r.b = b) (h : SatL w' (RrR r0 (.slice a bl c) r :: L)) => (refu32_ok h (by rw [hr]; exact g))
  have k0 := U _ _ _ rfl hr0
  have U1 := hid (fun (w' : World) (h : SatL w' (RrR w.heap.size (.slice a bl c) (rd1 b) :: L)) => (show Calls Tryd.prog 51 #[.pointer (some ⟨w.heap.size, 0, none⟩)] w' (Ret fun v w'' => v = .int .u32 (rkind b : Int) ∧ SatL w'' (RrR w.heap.size (.slice a bl c) (rd2 b) :: L)) from U _ _ _ (by unfold rd1; rw [Rdr.num_b]; rfl) h))
  have U2 := hid (fun (w' : World) (h : SatL w' (RrR w.heap.size (.slice a bl c) (rd2 b) :: L)) => (show Calls Tryd.prog 51 #[.pointer (some ⟨w.heap.size, 0, none⟩)] w' (Ret fun v w'' => v = .int .u32 (rvers b : Int) ∧ SatL w'' (RrR w.heap.size (.slice a bl c) (rd3 b) :: L)) from U _ _ _ (rd2_b b) h))
  have kk0 : Calls Tryd.prog 51 #[.pointer (some ⟨w.heap.size, 0, none⟩)] _ (Ret fun v w'' => v = .int .u32 (rxid b : Int) ∧ SatL w'' (RrR w.heap.size (.slice a bl c) (rd1 b) :: L)) := k0
  have hX : rxid b < 4294967296 := Rdr.num_lt _ _
  have hK : rkind b < 4294967296 := Rdr.num_lt _ _
  have hV : rvers b < 4294967296 := Rdr.num_lt _ _
  have hb3 : (rd3 b).b = b := by unfold rd3; rw [Rdr.num_b]; exact rd2_b b
  have Gg := hid g
  have hq : refAns b = refAns b := rfl
  conv at hq => rhs; unfold refAns
  have hSd : refS b = refS b := rfl
  conv at hSd => rhs; unfold refS
  have Hq := hid hq
  have HS := hid hSd
  have Hbl := hid hbl
  have UU := hid U
  clear h g hq hSd hr0 hbl Hb k0 U
  generalize hXX : rxid b = XI at *
  generalize hKK : rkind b = KI at *
  generalize hVV : rvers b = VE at *
  clear hXX hKK hVV
  go_enter Tryd.func22, Tryd.ntmps22
  go_upto_region 5 with (first
    | (go_at_call 51; (with_reducible refine kk0.mono ?_); rintro e w2 ⟨q, rfl, rfl, h2⟩; have k2 := U1.out _ h2; clear h2 kk0)
    | (go_at_call 51; (with_reducible refine k2.mono ?_); rintro e w3 ⟨q, rfl, rfl, h3⟩; have k3 := U2.out _ h3; clear h3 k2)
    | (go_at_call 51; (with_reducible refine k3.mono ?_); rintro e w4 ⟨q, rfl, rfl, h4⟩; clear k3))
  rw [← hr0e] at h4 ⊢
  obtain ⟨ok5, h5r⟩ := sat_RrR.1 h4
  have cE := SatL.cell (h5r : SatL w4 (cl r0 _ _ :: _)) (i := 2) (v := .int .i64 (rd3 b).err) rfl
  have U3 := hid (UU.out r0)
  clear hr0e U1 U2 UU
  by_cases hA : (rd3 b).err ≠ 0 ∨ KI ≠ 1 ∨ 1 < VE
  · have hq2 := Hq.out
    rw [if_pos hA] at hq2
    have Hq2 := hid hq2
    have fin : Ret (AnsPost L (refAns b)) (.returned (.tuple #[.int .u32 0, .slice none 0 0, .int .i64 15])) w4 := Ret.mk (by rw [Hq2.out]; exact ⟨.slice none 0 0, rfl, Sl_nil h4.tail⟩)
    have Hfin := hid fin
    clear hq2 Hq fin
    by_cases he : (rd3 b).err = 0
    · have te : ((rd3 b).err != 0) = false := by simp [he]
      by_cases hk : KI = 1
      · have t1 : ((KI : Int) != 1) = false := by simp [hk]
        have t2 : (1 : Int) < VE := by omega
        clear hA hk he
        go_wp2_with fail
        go_ret3
        exact Hfin.out
      · have t1 : ((KI : Int) != 1) = true := by simp; omega
        clear hA hk he
        go_wp2_with fail
        go_ret3
        exact Hfin.out
    · have te : ((rd3 b).err != 0) = true := by simpa using he
      clear hA he
      go_wp2_with fail
      go_ret3
      exact Hfin.out
  have hq2 := Hq.out
  rw [if_neg hA] at hq2
  have Hq3 := hid hq2
  have te : ((rd3 b).err != 0) = false := by simp; omega
  have t1 : ((KI : Int) != 1) = false := by simp; omega
  have t2 : ¬ (1 : Int) < VE := by omega
  have hV1 : VE ≤ 1 := by omega
  clear hq2 Hq hA h5r
  obtain ⟨r3, hr3⟩ : ∃ r3, rd3 b = r3 := ⟨_, rfl⟩
  rw [hr3] at HS h4 hb3 cE te ok5
  clear hr3
  go_upto_if 36 with fail
  clear cE te t1 t2
  go_cut [9, 10, 11, 12] from 36 to 91 (fun e9 _ _ _ wx => ∃ (EE : Int) (R : Rdr), e9 = .int .i64 EE ∧ Hid ((refS b).2 = R ∧ EE = (if (refS b).1 = 0 then 15 else (refS b).1) ∧ ¬ ((refS b).2.err = 0 ∧ (refS b).1 = 0)) ∧ SatL wx (RrR r0 (.slice a bl c) R :: L))
  case first =>
    obtain ⟨H1, hH1⟩ : ∃ H, (r3.num 4).1 = H := ⟨_, rfl⟩
    obtain ⟨r4, hr4⟩ : ∃ r4, (r3.num 4).2 = r4 := ⟨_, rfl⟩
    have k3 := U3.out _ _ hb3 h4
    have hb4 : r4.b = b := by rw [← hr4, Rdr.num_b]; exact hb3
    rw [hH1, hr4] at k3
    by_cases hV0 : VE = 1
    · have tv : ((VE : Int) == 1) = true := by simp [hV0]
      have hs := HS.out
      rw [if_pos hV0] at hs
      unfold saysR at hs
      rw [hH1, hr4] at hs
      clear hH1 hr4 hV0 h4
      obtain ⟨H2, hH2⟩ : ∃ H, (r4.num 4).1 = H := ⟨_, rfl⟩
      obtain ⟨r5, hr5⟩ : ∃ r5, (r4.num 4).2 = r5 := ⟨_, rfl⟩
      have hb5 : r5.b = b := by rw [← hr5, Rdr.num_b]; exact hb4
      have U4 := hid (fun (w' : World) (h : SatL w' (RrR r0 (.slice a bl c) r4 :: L)) => (by have := U3.out w' _ hb4 h; rw [hH2, hr5] at this; exact this : Calls Tryd.prog 51 #[.pointer (some ⟨r0, 0, none⟩)] w' (Ret fun v w'' => v = .int .u32 (H2 : Int) ∧ SatL w'' (RrR r0 (.slice a bl c) r5 :: L))))
      rw [hH2, hr5] at hs
      clear hH2 hr5
      obtain ⟨H3, hH3⟩ : ∃ H, (r5.num 4).1 = H := ⟨_, rfl⟩
      obtain ⟨r6, hr6⟩ : ∃ r6, (r5.num 4).2 = r6 := ⟨_, rfl⟩
      have U5 := hid (fun (w' : World) (h : SatL w' (RrR r0 (.slice a bl c) r5 :: L)) => (by have := U3.out w' _ hb5 h; rw [hH3, hr6] at this; exact this : Calls Tryd.prog 51 #[.pointer (some ⟨r0, 0, none⟩)] w' (Ret fun v w'' => v = .int .u32 (H3 : Int) ∧ SatL w'' (RrR r0 (.slice a bl c) r6 :: L))))
      rw [hH3, hr6] at hs
      clear hH3 hr6 U3
      by_cases x0 : H1 = 0
      · have tx0 : ((H1 : Int) == 0) = true := by simp [x0]
        rw [if_pos x0] at hs
        clear x0
        by_cases x2 : H2 = 2
        · have tx2 : ((H2 : Int) == 2) = true := by simp [x2]
          by_cases x3 : H3 = 2
          · have tx3 : ((H3 : Int) == 2) = true := by simp [x3]
            rw [if_pos ⟨x2, x3⟩] at hs
            clear x2 x3
            have Hs := hid hs
            clear hs
            go_wp2_with (first
              | (go_at_call 51; (with_reducible refine k3.mono ?_); rintro e w5 ⟨q, rfl, rfl, h5⟩; have k4 := U4.out _ h5; clear k3)
              | (go_at_call 51; (with_reducible refine k4.mono ?_); rintro e w6 ⟨q, rfl, rfl, h6⟩; have k5 := U5.out _ h6; clear k4)
              | (go_at_call 51; (with_reducible refine k5.mono ?_); rintro e w7 ⟨q, rfl, rfl, h7⟩; clear k5))
            go_meet
            exact ⟨31, r6, rfl, hid ⟨by rw [Hs.out], by rw [Hs.out]; rfl, by rw [Hs.out]; simp⟩, h7⟩
          · have tx3 : ((H3 : Int) == 2) = false := by simp; omega
            rw [if_neg (fun h => x3 h.2)] at hs
            clear x2 x3
            have Hs := hid hs
            clear hs
            go_wp2_with (first
              | (go_at_call 51; (with_reducible refine k3.mono ?_); rintro e w5 ⟨q, rfl, rfl, h5⟩; have k4 := U4.out _ h5; clear k3)
              | (go_at_call 51; (with_reducible refine k4.mono ?_); rintro e w6 ⟨q, rfl, rfl, h6⟩; have k5 := U5.out _ h6; clear k4)
              | (go_at_call 51; (with_reducible refine k5.mono ?_); rintro e w7 ⟨q, rfl, rfl, h7⟩; clear k5))
            go_meet
            exact ⟨15, r6, rfl, hid ⟨by rw [Hs.out], by rw [Hs.out]; rfl, by rw [Hs.out]; simp⟩, h7⟩
        · have tx2 : ((H2 : Int) == 2) = false := by simp; omega
          rw [if_neg (fun h => x2 h.1)] at hs
          clear x2
          have Hs := hid hs
          clear hs
          go_wp2_with (first
            | (go_at_call 51; (with_reducible refine k3.mono ?_); rintro e w5 ⟨q, rfl, rfl, h5⟩; have k4 := U4.out _ h5; clear k3)
            | (go_at_call 51; (with_reducible refine k4.mono ?_); rintro e w6 ⟨q, rfl, rfl, h6⟩; have k5 := U5.out _ h6; clear k4)
            | (go_at_call 51; (with_reducible refine k5.mono ?_); rintro e w7 ⟨q, rfl, rfl, h7⟩; clear k5))
          go_meet
          exact ⟨15, r6, rfl, hid ⟨by rw [Hs.out], by rw [Hs.out]; rfl, by rw [Hs.out]; simp⟩, h7⟩
      · have tx0 : ((H1 : Int) == 0) = false := by simp; omega
        rw [if_neg x0] at hs
        by_cases x1 : H1 = 1
        · have tx1 : ((H1 : Int) == 1) = true := by simp [x1]
          rw [if_pos x1] at hs
          clear x0 x1
          have Hs := hid hs
          clear hs
          go_wp2_with (first
            | (go_at_call 51; (with_reducible refine k3.mono ?_); rintro e w5 ⟨q, rfl, rfl, h5⟩; have k4 := U4.out _ h5; clear k3)
            | (go_at_call 51; (with_reducible refine k4.mono ?_); rintro e w6 ⟨q, rfl, rfl, h6⟩; clear k4))
          go_meet
          exact ⟨32, r5, rfl, hid ⟨by rw [Hs.out], by rw [Hs.out]; rfl, by rw [Hs.out]; simp⟩, h6⟩
        · have tx1 : ((H1 : Int) == 1) = false := by simp; omega
          rw [if_neg x1] at hs
          clear x0 x1
          have Hs := hid hs
          clear hs
          go_wp2_with (first
            | (go_at_call 51; (with_reducible refine k3.mono ?_); rintro e w5 ⟨q, rfl, rfl, h5⟩; clear k3))
          go_meet
          exact ⟨15, r4, rfl, hid ⟨by rw [Hs.out], by rw [Hs.out]; rfl, by rw [Hs.out]; simp⟩, h5⟩
    · have tv : ((VE : Int) == 1) = false := by simp; omega
      have hs := HS.out
      rw [if_neg hV0, hr4] at hs
      clear hH1 hr4 hV0 h4
      obtain ⟨r5, hr5⟩ : ∃ r5, (r4.bytes 400).2 = r5 := ⟨_, rfl⟩
      have hb5 : r5.b = b := by rw [← hr5, Rdr.bytes_b]; exact hb4
      have B4 := hid (fun (w' : World) (h : SatL w' (RrR r0 (.slice a bl c) r4 :: L)) => (by have := refbytes_ok (most := 400) (by omega) h (by rw [hb4]; exact Gg.out); rw [hr5] at this; exact this.mono (by rintro e w1 ⟨q, rfl, h1⟩; exact ⟨q, rfl, h1.tail⟩) : Calls Tryd.prog 52 #[.pointer (some ⟨r0, 0, none⟩), .int .i64 400] w' (Ret fun v w'' => SatL w'' (RrR r0 (.slice a bl c) r5 :: L))))
      rw [hr5] at hs
      clear hr5
      unfold sayT2 at hs
      obtain ⟨WY, hWY⟩ : ∃ H, (r5.num 4).1 = H := ⟨_, rfl⟩
      obtain ⟨r6, hr6⟩ : ∃ r6, (r5.num 4).2 = r6 := ⟨_, rfl⟩
      have hb6 : r6.b = b := by rw [← hr6, Rdr.num_b]; exact hb5
      have U5 := hid (fun (w' : World) (h : SatL w' (RrR r0 (.slice a bl c) r5 :: L)) => (by have := U3.out w' _ hb5 h; rw [hWY, hr6] at this; exact this : Calls Tryd.prog 51 #[.pointer (some ⟨r0, 0, none⟩)] w' (Ret fun v w'' => v = .int .u32 (WY : Int) ∧ SatL w'' (RrR r0 (.slice a bl c) r6 :: L))))
      rw [hWY, hr6] at hs
      clear hWY hr6
      obtain ⟨r7, hr7⟩ : ∃ r7, (r6.num 4).2 = r7 := ⟨_, rfl⟩
      have hb7 : r7.b = b := by rw [← hr7, Rdr.num_b]; exact hb6
      have U6 := hid (fun (w' : World) (h : SatL w' (RrR r0 (.slice a bl c) r6 :: L)) => (by have := U3.out w' _ hb6 h; rw [hr7] at this; exact this.mono (by rintro e w1 ⟨q, rfl, _, h1⟩; exact ⟨q, rfl, h1⟩) : Calls Tryd.prog 51 #[.pointer (some ⟨r0, 0, none⟩)] w' (Ret fun v w'' => SatL w'' (RrR r0 (.slice a bl c) r7 :: L))))
      rw [hr7] at hs
      clear hr7
      obtain ⟨r8, hr8⟩ : ∃ r8, (r7.num 4).2 = r8 := ⟨_, rfl⟩
      have U7 := hid (fun (w' : World) (h : SatL w' (RrR r0 (.slice a bl c) r7 :: L)) => (by have := U3.out w' _ hb7 h; rw [hr8] at this; exact this.mono (by rintro e w1 ⟨q, rfl, _, h1⟩; exact ⟨q, rfl, h1⟩) : Calls Tryd.prog 51 #[.pointer (some ⟨r0, 0, none⟩)] w' (Ret fun v w'' => SatL w'' (RrR r0 (.slice a bl c) r8 :: L))))
      rw [hr8] at hs
      clear hr8 U3
      go_upto_region 20 with (first
        | (go_at_call 51; (with_reducible refine k3.mono ?_); rintro e w5 ⟨q, rfl, rfl, h5⟩; have k4 := B4.out _ h5; clear k3 h5)
        | (go_at_call 52; (with_reducible refine k4.mono ?_); rintro e w6 ⟨q, rfl, h6⟩; have k5 := U5.out _ h6; clear k4 h6)
        | (go_at_call 51; (with_reducible refine k5.mono ?_); rintro e w7 ⟨q, rfl, rfl, h7⟩; clear k5))
      obtain ⟨ok6, h7r⟩ := sat_RrR.1 h7
      have cE := SatL.cell (h7r : SatL w7 (cl r0 _ _ :: _)) (i := 2) (v := .int .i64 r6.err) rfl
      have cP := SatL.cell ((h7r.alloc (.cells #[] 5)).pull 1 : SatL _ (cl r0 _ _ :: _)) (i := 1) (v := .int .i64 (r6.p : Int)) rfl
      clear h7r
      by_cases y0 : WY = 0
      · have ty0 : ((WY : Int) == 0) = true := by simp [y0]
        have ty1 : ((WY : Int) == 1) = false := by simp [y0]
        have ty2 : ((WY : Int) == 2) = false := by simp [y0]
        have ty3 : ((WY : Int) == 3) = false := by simp [y0]
        have ty4 : ((WY : Int) == 4) = false := by simp [y0]
        rw [if_pos y0] at hs
        clear y0
        have Hs := hid hs
        clear hs
        by_cases he : r6.err = 0
        · have te : (r6.err == 0) = true := by simp [he]
          have hpb : r6.p ≤ b.length := by have := ok6.1; rw [hb6] at this; exact this
          obtain ⟨vs, hsl, hrs⟩ := (Gg.out w7 h7.tail).fr hpb
          obtain ⟨D, hD⟩ : ∃ D, b.drop r6.p = D := ⟨_, rfl⟩
          obtain ⟨dn, hdn⟩ : ∃ dn, D.length = dn := ⟨_, rfl⟩
          have hdl : dn ≤ 1000000000 := by rw [← hdn, ← hD, List.length_drop]; omega
          have hq4 : refAns b = (XI, D, 0) := by
            rw [Hq3.out, Hs.out, if_pos ⟨he, rfl⟩]
            dsimp only
            rw [hD]
          have Hq4 := hid hq4
          rw [hD] at hrs
          have hrv := hrs w7 (Gg.out w7 h7.tail)
          obtain ⟨va, vc, hvs, _, _⟩ := hrv.valn
          rw [hdn] at hvs
          subst hvs
          have Hrv := hid hrv
          have Hdn := hid hdn
          have H7 := hid h7
          clear hrs hrv hdn hD hq4 he h7 Hs
          go_wp2_with (at_builtin; refine wpList_newcopy (w := w7) (nb := w7.heap.size) rfl rfl (.tmp 71) (.tmp 77) rfl rfl rfl H7.out Hdn.out Hrv.out hdl ?_; intro a4 c4 w8 _ h8)
          go_ret3
          exact Ret.mk (by rw [Hq4.out]; exact ⟨_, rfl, h8.swap.tail⟩)
        · have te : (r6.err == 0) = false := by simpa using he
          have He := hid he
          clear he
          go_wp2_with fail
          go_meet
          exact ⟨15, r6, rfl, hid ⟨by rw [Hs.out], by rw [Hs.out]; rfl, by rw [Hs.out]; exact fun h => He.out h.1⟩, h7⟩
      have ty0 : ((WY : Int) == 0) = false := by simp; omega
      rw [if_neg y0] at hs
      clear cP
      by_cases y1 : WY = 1
      · have ty1 : ((WY : Int) == 1) = true := by simp [y1]
        rw [if_pos y1] at hs
        clear y1 y0
        have Hs := hid hs
        clear hs
        go_wp2_with fail
        all_goals go_meet
        all_goals exact ⟨34, r6, rfl, hid ⟨by rw [Hs.out], by rw [Hs.out]; rfl, by rw [Hs.out]; simp⟩, h7⟩
      have ty1 : ((WY : Int) == 1) = false := by simp; omega
      rw [if_neg y1] at hs
      by_cases y2 : WY = 2
      · have ty2 : ((WY : Int) == 2) = true := by simp [y2]
        rw [if_pos y2] at hs
        have k6 := U6.out _ h7
        clear y2 y0 y1
        have Hs := hid hs
        clear hs
        go_wp2_with (first
          | (go_at_call 51; (with_reducible refine k6.mono ?_); rintro e w8 ⟨q, rfl, h8⟩; have k7 := U7.out _ h8; clear k6)
          | (go_at_call 51; (with_reducible refine k7.mono ?_); rintro e w9 ⟨q, rfl, h9⟩; clear k7))
        all_goals go_meet
        all_goals exact ⟨35, r8, rfl, hid ⟨by rw [Hs.out], by rw [Hs.out]; rfl, by rw [Hs.out]; simp⟩, h9⟩
      have ty2 : ((WY : Int) == 2) = false := by simp; omega
      rw [if_neg y2] at hs
      by_cases y3 : WY = 3
      · have ty3 : ((WY : Int) == 3) = true := by simp [y3]
        rw [if_pos y3] at hs
        clear y3 y0 y1 y2
        have Hs := hid hs
        clear hs
        go_wp2_with fail
        all_goals go_meet
        all_goals exact ⟨36, r6, rfl, hid ⟨by rw [Hs.out], by rw [Hs.out]; rfl, by rw [Hs.out]; simp⟩, h7⟩
      have ty3 : ((WY : Int) == 3) = false := by simp; omega
      rw [if_neg y3] at hs
      by_cases y4 : WY = 4
      · have ty4 : ((WY : Int) == 4) = true := by simp [y4]
        rw [if_pos y4] at hs
        clear y4 y0 y1 y2 y3
        have Hs := hid hs
        clear hs
        go_wp2_with fail
        all_goals go_meet
        all_goals exact ⟨33, r6, rfl, hid ⟨by rw [Hs.out], by rw [Hs.out]; rfl, by rw [Hs.out]; simp⟩, h7⟩
      have ty4 : ((WY : Int) == 4) = false := by simp; omega
      rw [if_neg y4] at hs
      clear y0 y1 y2 y3 y4
      have Hs := hid hs
      clear hs
      go_wp2_with fail
      all_goals go_meet
      all_goals exact ⟨15, r6, rfl, hid ⟨by rw [Hs.out], by rw [Hs.out]; rfl, by rw [Hs.out]; simp⟩, h7⟩
  case rest =>
  obtain ⟨EE, R, rfl, HH, h9⟩ := hcut
  have hRb : R.b = b := by
    rw [← HH.out.1]
    unfold refS
    split
    · rw [saysR_bx, rd3_bx]
    · rw [sayT2_bx, Rdr.bytes_b, Rdr.num_b, rd3_bx]
  have kL := refleft_ok h9 (by rw [hRb]; exact Gg.out)
  obtain ⟨okR, h9r⟩ := sat_RrR.1 h9
  have cE := SatL.cell (h9r : SatL _ (cl r0 _ _ :: _)) (i := 2) (v := .int .i64 R.err) rfl
  have hq3 := Hq3.out
  rw [if_neg HH.out.2.2, HH.out.1] at hq3
  have hpl : R.p ≤ R.b.length := okR.1
  clear h4 hb3 h9r Hq3 HS U3 hRb
  by_cases he : R.err = 0
  · have te : (R.err != 0) = false := by simp [he]
    by_cases hl : R.p < R.b.length
    · have tl : (0 : Int) < (R.b.length : Int) - R.p := by omega
      rw [if_pos (.inr (.inl hl))] at hq3
      have Hq4 := hid hq3
      have tl3 : (R.p : Int) < R.b.length := by omega
      clear hq3 he hpl
      go_wp2_with (go_at_call 53; (with_reducible refine kL.mono ?_); rintro e w10 ⟨q, rfl, rfl, h10⟩)
      go_ret3
      exact Ret.mk (by rw [Hq4.out]; exact ⟨.slice none 0 0, rfl, Sl_nil h10.tail⟩)
    · have tl : ¬ (0 : Int) < (R.b.length : Int) - R.p := by omega
      have tl2 : ¬ R.p < R.b.length := hl
      have tl3 : ¬ (R.p : Int) < R.b.length := by omega
      by_cases h15 : EE = 15
      · have t15 : (EE == 15) = true := by simp [h15]
        have hq4 : refAns b = (0, [], 15) := by
          rw [hq3]
          by_cases hz : (refS b).1 = 15
          · rw [if_pos (.inr (.inr hz))]
          · exfalso
            have h2 := HH.out.2.1
            have h3 := HH.out.2.2
            rw [h15] at h2
            split at h2
            · rename_i h4; exact h3 ⟨by rw [HH.out.1]; exact he, h4⟩
            · exact hz h2.symm
        have Hq4 := hid hq4
        clear hq3 hq4 he hl hpl h15
        go_wp2_with (go_at_call 53; (with_reducible refine kL.mono ?_); rintro e w10 ⟨q, rfl, rfl, h10⟩)
        go_ret3
        exact Ret.mk (by rw [Hq4.out]; exact ⟨.slice none 0 0, rfl, Sl_nil h10.tail⟩)
      · have t15 : (EE == 15) = false := by simpa using h15
        have hS1 : (refS b).1 = EE := by
          have h2 := HH.out.2.1
          split at h2
          · exact absurd h2 h15
          · exact h2.symm
        rw [hS1, if_neg (by simp [he, h15]; omega)] at hq3
        have Hq4 := hid hq3
        clear hq3 he hl hpl h15 hS1
        go_wp2_with (go_at_call 53; (with_reducible refine kL.mono ?_); rintro e w10 ⟨q, rfl, rfl, h10⟩)
        go_ret3
        exact Ret.mk (by rw [Hq4.out]; exact ⟨.slice none 0 0, rfl, Sl_nil h10.tail⟩)
  · have te : (R.err != 0) = true := by simpa using he
    rw [if_pos (.inl he)] at hq3
    have Hq4 := hid hq3
    clear hq3 he hpl kL
    go_wp2_with fail
    go_ret3
    exact Ret.mk (by rw [Hq4.out]; exact ⟨.slice none 0 0, rfl, Sl_nil h9.tail⟩)
end
end Go.Proofs.YtpecmkkcepnpeaaDoor
