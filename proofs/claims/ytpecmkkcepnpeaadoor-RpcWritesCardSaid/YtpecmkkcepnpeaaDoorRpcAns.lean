/- rpc: Answer, Success, Garbage. No condition beside the sizes. -/
import Derived.Test.YtpecmkkcepnpeaaDoorRpcA
import Derived.Test.YtpecmkkcepnpeaaDoorIsErr
namespace Go.Proofs.YtpecmkkcepnpeaaDoor
set_option linter.unusedVariables false
set_option linter.unusedSimpArgs false
open Go.RowKit
def ansS (b : List UInt8) : Int × Rdr := saysL (Rdr.new (b.drop (rd2 b).p))
def answerL (b : List UInt8) : Nat × List UInt8 × Int :=
  if (rd3 b).err ≠ 0 ∨ rkind b ≠ 1 ∨ 1 < rvers b then (0, [], 15)
  else if (ansS b).2.err ≠ 0 ∨ (ansS b).1 = 15 then (0, [], 15)
  else if (ansS b).1 = 0 then (rxid b, b.drop ((rd2 b).p + (ansS b).2.p), 0)
  else if (ansS b).2.p < (ansS b).2.b.length then (0, [], 15)
  else (rxid b, [], (ansS b).1)
theorem saysL_b (r : Rdr) : (saysL r).2.b = r.b := by
  unfold saysL
  split
  · unfold saysR
    split
    · simp only [Rdr.num_b]
    · split <;> simp only [Rdr.num_b]
  · unfold saysT
    repeat' split
    all_goals simp only [Rdr.num_b, Rdr.bytes_b]
theorem rd2_b (b : List UInt8) : (rd2 b).b = b := by
  unfold rd2 rd1
  simp only [Rdr.num_b]
  rfl
def AnsPost (L : List HP) (q : Nat × List UInt8 × Int) (v : Value) (w : World) : Prop := ∃ bv, v = .tuple #[.int .u32 (q.1 : Int), bv, .int .i64 q.2.2] ∧ SatL w (SlB 5 bv q.2.1 :: L)
section
variable {w : World} {L : List HP}
theorem success_ok {xid : Nat} {v : Value} {b : List UInt8} (hx : xid < 4294967296) (hb : b.length ≤ 100000000) (h : SatL w L) (g : Gives L (RdV v b)) :
    Calls Tryd.prog 25 #[.int .u32 (xid : Int), v] w (Ret fun q w' => SatL w' (SlB 5 q (be4 [xid, 1, 0, 0, 0, 0] ++ b) :: L)) := by
  obtain ⟨a, c, rfl, g1, g2⟩ := (g w h).valn
  have Gg := hid g
  have hal := h.alloc (.cells #[.int .u32 0, .int .u32 0, .int .u32 0, .int .u32 0] 22)
  have kr := reply_ok (us := [0, 0, 0, 0]) hx (by intro u hu; simp at hu; omega) (by simp) hal (fun w' h' => RdW.ofCl (n := 4) (c := 4) h' rfl rfl (by omega) (by omega))
  have hbb : (24 + b.length) * 1 ≤ 140737488355328 := by omega
  have h63 : 24 + b.length ≤ maxLen := by unfold maxLen; omega
  clear h g hal
  obtain ⟨HD, hHD⟩ : ∃ HD, be4 [xid, 1, 0, 0, 0, 0] = HD := ⟨_, rfl⟩
  have hHl : HD.length = 24 := by rw [← hHD, be4_len]; rfl
  rw [hHD] at kr
  have HHD := hid hHD
  have HHl := hid hHl
  clear hHD hHl
  go_enter Tryd.func25, Tryd.ntmps25
  go_wp2_with (first
    | (go_at_call 57; (with_reducible refine kr.mono ?_); rintro e w2 ⟨q, rfl, h2⟩; obtain ⟨va, vc, rfl, _, _⟩ := Sl.valn h2 (m := 24) (by rw [bvs_len]; exact HHl.out); have hK := Sl.toK (n := 24) h2 (by rw [bvs_len]; exact HHl.out); have hx := SrcOk.ofRdV (Gg.out w2 h2.tail.tail))
    | (at_builtin; refine wpList_append_sl rfl (.tmp 7) (.tmp 8) rfl elem_byte rfl hK rfl hx (bvs_one _) hbb h63 ?_; intro v3 w3 h3 _; have h4 := Sl.ofK h3; rw [← bvs_append] at h4))
  go_ret
  refine Ret.mk ?_
  rw [HHD.out]
  exact h4.swap.tail
theorem garbage_ok {xid : Nat} (hx : xid < 4294967296) (h : SatL w L) :
    Calls Tryd.prog 27 #[.int .u32 (xid : Int)] w (Ret fun q w' => SatL w' (SlB 5 q (be4 [xid, 1, 0, 0, 0, 4]) :: L)) := by
  have hal := h.alloc (.cells #[.int .u32 0, .int .u32 0, .int .u32 0, .int .u32 4] 22)
  have kr := reply_ok (us := [0, 0, 0, 4]) hx (by intro u hu; simp at hu; omega) (by simp) hal (fun w' h' => RdW.ofCl (n := 4) (c := 4) h' rfl rfl (by omega) (by omega))
  clear h hal
  go_enter Tryd.func27, Tryd.ntmps27
  go_wp2_with (first
    | (go_at_call 57; (with_reducible refine kr.mono ?_); rintro e w2 ⟨q, rfl, h2⟩))
  go_ret
  exact Ret.mk h2.swap.tail
set_option maxRecDepth 100000 in
set_option maxHeartbeats 4000000 in
theorem answer_ok {v : Value} {b : List UInt8} (hb : b.length ≤ 10000000) (h : SatL w L) (g : Gives L (RdB v b)) :
    Calls Tryd.prog 21 #[v] w (Ret (AnsPost L (answerL b))) := by
  obtain ⟨a, c, rfl, g1, g2⟩ := (g w h).valn
  have kN := newreader_ok h g (by omega)
  have hX : rxid b < 4294967296 := Rdr.num_lt _ _
  have hK : rkind b < 4294967296 := Rdr.num_lt _ _
  have hV : rvers b < 4294967296 := Rdr.num_lt _ _
  have U0 := hid (fun (w' : World) (X : List HP) (rb : Nat) (h : SatL w' (RdrR rb (Rdr.new b) :: X)) => (show Calls Tryd.prog 46 #[.pointer (some ⟨rb, 0, none⟩)] w' (Ret fun v w'' => v = .int .u32 (rxid b : Int) ∧ SatL w'' (RdrR rb (rd1 b) :: X)) from u32_ok h))
  have U1 := hid (fun (w' : World) (X : List HP) (rb : Nat) (h : SatL w' (RdrR rb (rd1 b) :: X)) => (show Calls Tryd.prog 46 #[.pointer (some ⟨rb, 0, none⟩)] w' (Ret fun v w'' => v = .int .u32 (rkind b : Int) ∧ SatL w'' (RdrR rb (rd2 b) :: X)) from u32_ok h))
  have U2 := hid (fun (w' : World) (X : List HP) (rb : Nat) (h : SatL w' (RdrR rb (rd2 b) :: X)) => (show Calls Tryd.prog 46 #[.pointer (some ⟨rb, 0, none⟩)] w' (Ret fun v w'' => v = .int .u32 (rvers b : Int) ∧ SatL w'' (RdrR rb (rd3 b) :: X)) from u32_ok h))
  have Gg := hid g
  have hq : answerL b = answerL b := rfl
  conv at hq => rhs; unfold answerL
  have Hq := hid hq
  clear h g hq
  generalize hXX : rxid b = XI at *
  generalize hKK : rkind b = KI at *
  generalize hVV : rvers b = VE at *
  clear hXX hKK hVV
  go_enter Tryd.func21, Tryd.ntmps21
  go_upto_region 5 with (first
    | (go_at_call 45; (with_reducible refine kN.mono ?_); rintro e w1 ⟨q, rfl, rb, rfl, h1⟩; have k1 := U0.out _ _ _ h1; clear h1 kN)
    | (go_at_call 46; (with_reducible refine k1.mono ?_); rintro e w2 ⟨q, rfl, rfl, h2⟩; have k2 := U1.out _ _ _ h2; clear h2 k1)
    | (go_at_call 46; (with_reducible refine k2.mono ?_); rintro e w3 ⟨q, rfl, rfl, h3⟩; have kAt := at_ok h3; have k3 := U2.out _ _ _ h3; have hp2 := (rdr_bytes h3).1; clear k2)
    | (go_at_call 47; (with_reducible refine kAt.mono ?_); rintro e w4 ⟨q, rfl, rfl, rfl⟩; clear kAt)
    | (go_at_call 46; (with_reducible refine k3.mono ?_); rintro e w5 ⟨q, rfl, rfl, h5⟩; clear k3))
  rw [rd2_b] at hp2
  have kE := err_ok h5
  obtain ⟨ER, hER⟩ : ∃ ER, (rd3 b).err = ER := ⟨_, rfl⟩
  rw [hER] at kE Hq
  obtain ⟨AT, hAT⟩ : ∃ AT, (rd2 b).p = AT := ⟨_, rfl⟩
  have hS : ansS b = saysL (Rdr.new (b.drop AT)) := by unfold ansS; rw [hAT]
  obtain ⟨SE, hSE⟩ : ∃ SE, ansS b = SE := ⟨_, rfl⟩
  rw [hAT] at Hq hp2 ⊢
  rw [hSE] at Hq hS
  clear hER hAT hSE h3
  by_cases hA : ER ≠ 0 ∨ KI ≠ 1 ∨ 1 < VE
  · have hq := Hq.out
    rw [if_pos hA] at hq
    have Hq2 := hid hq
    clear hq Hq hS
    have fin : Ret (AnsPost L (answerL b)) (.returned (.tuple #[.int .u32 0, .slice none 0 0, .int .i64 15])) w5 := Ret.mk (by rw [Hq2.out]; exact ⟨.slice none 0 0, rfl, Sl_nil h5.tail⟩)
    have Hfin := hid fin
    clear fin
    by_cases he : ER = 0
    · subst he
      by_cases hk : KI = 1
      · have t1 : ((KI : Int) != 1) = false := by simp [hk]
        have t2 : ((1 : Int) < (VE : Int)) = True := by simp; rcases hA with h | h | h; exact absurd rfl h; exact absurd hk h; omega
        have t3 : (1 < VE) = True := by simp; rcases hA with h | h | h; exact absurd rfl h; exact absurd hk h; omega
        clear hA hk
        go_wp2_with (go_at_call 48; (with_reducible refine kE.mono ?_); rintro e w7 ⟨q, rfl, rfl, rfl⟩)
        go_ret3
        exact Hfin.out
      · have t1 : ((KI : Int) != 1) = true := by simp; omega
        clear hA hk
        go_wp2_with (go_at_call 48; (with_reducible refine kE.mono ?_); rintro e w7 ⟨q, rfl, rfl, rfl⟩)
        go_ret3
        exact Hfin.out
    · have t0 : (ER != 0) = true := by simpa using he
      clear hA he
      go_wp2_with (go_at_call 48; (with_reducible refine kE.mono ?_); rintro e w7 ⟨q, rfl, rfl, rfl⟩)
      go_ret3
      exact Hfin.out
  · have hq := Hq.out
    rw [if_neg hA] at hq
    have he : ER = 0 := by omega
    have t1 : ((KI : Int) != 1) = false := by simp; omega
    have t2 : ((1 : Int) < (VE : Int)) = False := by simp; omega
    have t3 : (1 < VE) = False := by simp; omega
    subst he
    clear hA Hq
    have hrb := Gg.out w5 h5.tail
    obtain ⟨sv, hsv, gsv⟩ := hrb.from hp2
    have kN2 := newreader_ok h5 (fun w' h' => gsv w' (Gg.out w' h'.tail)) (by rw [List.length_drop]; omega)
    obtain ⟨sa, sc, rfl, _, _⟩ := (gsv w5 hrb).valn
    obtain ⟨dl, hdl⟩ : ∃ dl, (b.drop AT).length = dl := ⟨_, rfl⟩
    have hdl2 : dl = b.length - AT := by rw [← hdl, List.length_drop]
    rw [hdl] at hsv kN2
    have hSb : SE.2.b = b.drop AT := by rw [hS, saysL_b]; rfl
    have SY := hid (fun (w' : World) (X : List HP) (rb : Nat) (h : SatL w' (RdrR rb (Rdr.new (b.drop AT)) :: X)) => (show Calls Tryd.prog 49 #[.pointer (some ⟨rb, 0, none⟩)] w' (Ret fun v w'' => v = .int .i64 SE.1 ∧ SatL w'' (RdrR rb SE.2 :: X)) from hS ▸ says_ok h))
    have Hq2 := hid hq
    have HSb := hid hSb
    have Hdl := hid hdl
    have Hdl2 := hid hdl2
    clear hq hS hSb hdl hdl2 hrb gsv U0 U1 U2
    go_upto_block 0 with (first
      | (go_at_call 48; (with_reducible refine kE.mono ?_); rintro e w7 ⟨q, rfl, rfl, rfl⟩; clear kE)
      | (go_at_call 45; (with_reducible refine kN2.mono ?_); rintro e w8 ⟨q, rfl, rb2, rfl, h8⟩; have kS := SY.out _ _ _ h8; clear kN2)
      | (go_at_call 49; (with_reducible refine kS.mono ?_); rintro e w9 ⟨q, rfl, rfl, h9⟩; clear kS h8))
    obtain ⟨E, R⟩ := SE
    dsimp only at Hq2 HSb h9
    have kE2 := err_ok h9
    have kI := is_num E 15 w9
    have hRp := (rdr_bytes h9).1
    rw [HSb.out] at hRp
    have h10 := h9.tail.tail
    by_cases hr : R.err = 0
    · rw [hr] at kE2
      by_cases h15 : E = 15
      · have hq := Hq2.out
        rw [if_pos (.inr h15)] at hq
        have Hq3 := hid hq
        have fin : Ret (AnsPost L (answerL b)) (.returned (.tuple #[.int .u32 0, .slice none 0 0, .int .i64 15])) w9 := Ret.mk (by rw [Hq3.out]; exact ⟨.slice none 0 0, rfl, Sl_nil h10⟩)
        have Hfin := hid fin
        rw [show (E == 15) = true by simp [h15]] at kI
        clear fin hq Hq2 h15 hr SY h5 h9 h10
        go_wp2_with (first
          | (go_at_call 48; (with_reducible refine kE2.mono ?_); rintro e w10 ⟨q, rfl, rfl, rfl⟩)
          | (go_at_call 31; (with_reducible refine kI.mono ?_); rintro e w11 ⟨rfl, rfl⟩))
        go_ret3
        exact Hfin.out
      · rw [show (E == 15) = false by simpa using h15] at kI
        have hq := Hq2.out
        rw [if_neg (by rintro (h | h); exact h hr; exact h15 h)] at hq
        clear Hq2 h15
        by_cases h0 : E = 0
        · rw [if_pos h0] at hq
          have kA := at_ok h9
          have hrb := Gg.out w9 h10
          have hle : AT + R.p ≤ b.length := by rw [List.length_drop] at hRp; omega
          obtain ⟨fv, hfv, gfv⟩ := hrb.from hle
          obtain ⟨fa, fc, rfl, _, _⟩ := (gfv w9 hrb).valn
          obtain ⟨fl, hfl⟩ : ∃ fl, (b.drop (AT + R.p)).length = fl := ⟨_, rfl⟩
          have hx := SrcOk.ofRdB (gfv w9 hrb)
          have hfl2 : fl ≤ b.length := by rw [← hfl, List.length_drop]; omega
          have hbb : (0 + fl) * 1 ≤ 140737488355328 := by omega
          have h63 : 0 + fl ≤ maxLen := by unfold maxLen; omega
          rw [hfl] at hx hfv
          obtain ⟨SU, hSU⟩ : ∃ SU, AT + R.p = SU := ⟨_, rfl⟩
          have hws : IntKind.i64.wrap ((AT : Int) + (R.p : Int)) = (SU : Int) := by rw [IntWalk.i64_in _ (by omega)]; omega
          rw [hSU] at hx hfv hq hfl
          have hK := Sl.toK (n := 0) (Sl_nil (T := 5) h10) rfl
          have t5 : (E == 0) = true := by simp [h0]
          have Hq3 := hid hq
          have Hfl := hid hfl
          clear hq hr h0 SY h5 h9 hRp hrb hle gfv hfl hfl2 hSU h10
          go_wp2_with (first
            | (go_at_call 48; (with_reducible refine kE2.mono ?_); rintro e w10 ⟨q, rfl, rfl, rfl⟩)
            | (go_at_call 31; (with_reducible refine kI.mono ?_); rintro e w11 ⟨rfl, rfl⟩)
            | (go_at_call 47; (with_reducible refine kA.mono ?_); rintro e w12 ⟨q, rfl, rfl, rfl⟩)
            | (at_builtin; refine wpList_append_sl rfl (.const (.slice none 0 0)) (.tmp 59) rfl elem_byte rfl hK rfl hx (bvs_one _) hbb h63 ?_; intro v14 w14 h14 _; have h15 := Sl.ofK h14; rw [List.nil_append] at h15; obtain ⟨ea, ec, rfl, _, _⟩ := Sl.valn h15 (m := fl) (by rw [bvs_len]; exact Hfl.out)))
          go_ret3
          exact Ret.mk (by rw [Hq3.out]; exact ⟨_, rfl, h15⟩)
        · have t5 : (E == 0) = false := by simpa using h0
          rw [if_neg h0] at hq
          have kL := left_ok h9
          by_cases hlf : R.p < R.b.length
          · rw [if_pos hlf] at hq
            obtain ⟨LF, hLF⟩ : ∃ LF : Int, (R.b.length : Int) - R.p = LF := ⟨_, rfl⟩
            rw [hLF] at kL
            have t6 : ((0 : Int) < LF) = True := by simp; omega
            have Hq3 := hid hq
            clear hq hr h0 SY h5 h9 hRp hlf hLF h10
            go_wp2_with (first
              | (go_at_call 48; (with_reducible refine kE2.mono ?_); rintro e w10 ⟨q, rfl, rfl, rfl⟩)
              | (go_at_call 31; (with_reducible refine kI.mono ?_); rintro e w11 ⟨rfl, rfl⟩)
              | (go_at_call 50; (with_reducible refine kL.mono ?_); rintro e w12 ⟨q, rfl, rfl, h12⟩))
            go_ret3
            exact Ret.mk (by rw [Hq3.out]; exact ⟨.slice none 0 0, rfl, Sl_nil h12.tail.tail⟩)
          · rw [if_neg hlf] at hq
            obtain ⟨LF, hLF⟩ : ∃ LF : Int, (R.b.length : Int) - R.p = LF := ⟨_, rfl⟩
            rw [hLF] at kL
            have t6 : ((0 : Int) < LF) = False := by simp; omega
            have Hq3 := hid hq
            clear hq hr h0 SY h5 h9 hRp hlf hLF h10
            go_wp2_with (first
              | (go_at_call 48; (with_reducible refine kE2.mono ?_); rintro e w10 ⟨q, rfl, rfl, rfl⟩)
              | (go_at_call 31; (with_reducible refine kI.mono ?_); rintro e w11 ⟨rfl, rfl⟩)
              | (go_at_call 50; (with_reducible refine kL.mono ?_); rintro e w12 ⟨q, rfl, rfl, h12⟩))
            go_ret3
            exact Ret.mk (by rw [Hq3.out]; exact ⟨.slice none 0 0, rfl, Sl_nil h12.tail.tail⟩)
    · have hq := Hq2.out
      rw [if_pos (.inl hr)] at hq
      have Hq3 := hid hq
      have fin : Ret (AnsPost L (answerL b)) (.returned (.tuple #[.int .u32 0, .slice none 0 0, .int .i64 15])) w9 := Ret.mk (by rw [Hq3.out]; exact ⟨.slice none 0 0, rfl, Sl_nil h10⟩)
      have Hfin := hid fin
      have t4 : (R.err != 0) = true := by simpa using hr
      clear fin hq Hq2 hr SY h5 h9 h10
      go_wp2_with (first
        | (go_at_call 48; (with_reducible refine kE2.mono ?_); rintro e w10 ⟨q, rfl, rfl, rfl⟩)
        | (go_at_call 31; (with_reducible refine kI.mono ?_); rintro e w11 ⟨rfl, rfl⟩))
      go_ret3
      exact Hfin.out
end
end Go.Proofs.YtpecmkkcepnpeaaDoor
