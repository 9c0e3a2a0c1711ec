/- RpcCalls: the law's walk. Condition: errors.errorType's cell holds the type's handle. -/
import Derived.Test.YtpecmkkcepnpeaaDoorRxP
import Derived.Test.YtpecmkkcepnpeaaDoorIsW
import Derived.Test.YtpecmkkcepnpeaaDoorRpcT
import Derived.Test.YtpecmkkcepnpeaaDoorLawSame
namespace Go.Proofs.YtpecmkkcepnpeaaDoor
set_option linter.unusedVariables false
set_option linter.unusedSimpArgs false
open Go.RowKit
section
variable {w : World} {L : List HP}
theorem same0_ok (h : SatL w L) : Calls Tryd.prog 29 #[noCall, noCall] w (Ret fun v w' => v = .bool true ∧ SatL w' L) :=
  same_ok (xi := 0) (pr := 0) (ve := 0) (po := 0) (ui := 0) (gi := 0) (gs := []) (bo := []) (gv1 := .slice none 0 0) (gv2 := .slice none 0 0) (bv1 := .slice none 0 0) (bv2 := .slice none 0 0) h (fun _ _ => .inl ⟨rfl, rfl⟩) (fun _ _ => .inl ⟨rfl, rfl⟩) (fun _ _ => .inl ⟨rfl, rfl⟩) (fun _ _ => .inl ⟨rfl, rfl⟩)
set_option maxRecDepth 100000 in
set_option maxHeartbeats 8000000 in
theorem calls_ok {v : Value} {b : List UInt8} (h : SatL w L) (g : Gives L (RdV v b)) (hG : Gives L HndW) :
    Calls Tryd.prog 10 #[v] w (Ret fun q w' => q = .bool true ∧ SatL w' L) := by
  obtain ⟨bl, hbl⟩ : ∃ bl, b.length = bl := ⟨_, rfl⟩
  obtain ⟨a, c, rfl, g1, g2⟩ := (g w h).valn
  rw [hbl] at g g1 ⊢
  have kK := known_ok h hG
  have HG := hid hG
  have Gg := hid g
  have Hbl := hid hbl
  clear h g hG hbl
  by_cases hl : 32768 < bl
  · have t1 : ((32768 : Int) < (bl : Int)) = True := by simp; omega
    have t2 : (32768 < bl) = True := by simp; omega
    clear hl
    go_enter Tryd.func10, Tryd.ntmps10
    go_wp2_with (first
      | (go_at_call 12; (with_reducible refine kK.mono ?_); rintro ev w1 ⟨q, rfl, rfl, hs⟩))
    go_ret
    exact Ret.mk ⟨rfl, hs⟩
  · have t1 : ((32768 : Int) < (bl : Int)) = False := by simp; omega
    have t2 : (32768 < bl) = False := by simp; omega
    have hbl2 : bl ≤ 1000000000 := by omega
    have hb7 := hid (show b.length ≤ 10000000 by rw [Hbl.out]; omega)
    cases hq : readL b with
    | bad e bs =>
      have he := readL_err hq
      have He := hid he
      have hez : (e == 0) = false := by simp; omega
      obtain ⟨sn, hsn⟩ : ∃ sn, bs.length = sn := ⟨_, rfl⟩
      have Hsn := hid hsn
      have HQ := hid hq
      clear hl hq he hsn
      go_enter Tryd.func10, Tryd.ntmps10
      go_upto_region 8 with (first
        | (go_at_call 12; (with_reducible refine kK.mono ?_); rintro ev w1 ⟨q, rfl, rfl, hs⟩; have gv1 := Gg.out w1 hs; have hs1 := hid hs; clear hs kK)
        | (at_builtin; refine wpList_newcopy (w := w1) (nb := w1.heap.size) rfl rfl (.tmp 15) (.tmp 16) rfl rfl rfl hs1.out Hbl.out gv1 hbl2 ?_; intro a2 c2 w2 _ h2; have kp := parse_ok hb7.out h2 (fun w' h' => SlB.rd h') HG.out.nx; rw [HQ.out] at kp; clear gv1 h2)
        | (go_at_call 14; (with_reducible refine kp.mono ?_); rintro ev w4 ⟨q, rfl, nb, rfl, h4⟩; have h5 := h4.alloc (.cells #[.int .u32 0, .int .u32 0, .int .u32 0, .int .u32 0, .int .u32 0, .int .u32 0, .slice none 0 0, .slice none 0 0] 30); have kr := refparse_ok hb7.out h5 Gg.out.nx.nx.nx; rw [HQ.out] at kr; clear kp h4 h5)
        | (go_at_call 30; (with_reducible refine kr.mono ?_); rintro ev w6 ⟨q, rfl, sv, rfl, h6⟩; obtain ⟨sa, sc, rfl, _, _⟩ := Sl.valn h6 (m := sn) (by rw [bvs_len]; exact Hsn.out); clear kr))
      obtain ⟨c4, hc4⟩ : ∃ c4, c4 = w4.heap.size := ⟨_, rfl⟩
      obtain ⟨c6, hc6⟩ : ∃ c6, c6 = w6.heap.size := ⟨_, rfl⟩
      have h7 : SatL _ (cl w6.heap.size 64 #[.int .u32 0, .int .u32 0, .int .u32 0, .int .u32 0, .int .u32 0, .int .u32 0, .slice none 0 0, .slice none 0 0] :: SlB 5 (.slice sa sn sc) bs :: cl w4.heap.size 30 #[.int .u32 0, .int .u32 0, .int .u32 0, .int .u32 0, .int .u32 0, .int .u32 0, .slice none 0 0, .slice none 0 0] :: WrongR nb e bs :: SlB 5 (.slice a2 bl c2) b :: L) := h6.alloc (.cells #[.int .u32 0, .int .u32 0, .int .u32 0, .int .u32 0, .int .u32 0, .int .u32 0, .slice none 0 0, .slice none 0 0] 64)
      generalize w6.alloc (.cells #[.int .u32 0, .int .u32 0, .int .u32 0, .int .u32 0, .int .u32 0, .int .u32 0, .slice none 0 0, .slice none 0 0] 64) = w7 at h7 ⊢
      rw [← hc4, ← hc6] at h7 ⊢
      clear hc4 hc6 h6
      obtain ⟨x0, x1, x2, x3, x4, x5, x6, x7⟩ := set8r_sat (h7.pull 2 : SatL w7 (cl c4 _ #[_, _, _, _, _, _, _, _] :: _))
      obtain ⟨y0, y1, y2, y3, y4, y5, y6, y7⟩ := set8r_sat (h7 : SatL w7 (cl c6 _ #[_, _, _, _, _, _, _, _] :: _))
      have v1 := RdB.conv (SlB.rd (h7.pull 4))
      have v2 := RdV.conv (Gg.out w7 h7.tail.tail.tail.tail.tail)
      have kS := same0_ok h7
      obtain ⟨SB, hSB⟩ : ∃ SB : ByteArray, ⟨b.toArray⟩ = SB := ⟨_, rfl⟩
      rw [hSB] at v1 v2
      clear hSB h7
      go_upto_region 12 with (first
        | (go_at_call 29; (with_reducible refine kS.mono ?_); rintro ev w8 ⟨q, rfl, rfl, h8⟩))
      have h9 := h8.tail.swap.tail
      clear x0 x1 x2 x3 x4 x5 x6 x7 y0 y1 y2 y3 y4 y5 y6 y7 v1 v2 kS h8
      have h10 := h9.alloc (.cells #[.pointer none] 53)
      go_upto_region 13 with fail
      generalize w8.alloc (.cells #[.pointer none] 53) = w9 at h10 ⊢
      generalize w8.heap.size = c9 at h10 ⊢
      clear h9
      have hd := sat_drew.2 h10
      refine GoE.start (fun _ => True) 42 43 rfl (by kernel_rfl) ?_
      generalize w9.drew = w10 at hd ⊢
      have kA := as_ok (e := nb) HG.out.nx.nx.nx (hd : SatL w10 (cl c9 53 #[.pointer none] :: _))
      have S0 : True := trivial
      clear h10
      refine GoE.take (i := 0) (v := ?_) rfl (by decide) (by kernel_rfl) (by kernel_rfl) (by kernel_rfl) (by kernel_rfl) (fun _ _ _ h => h) (by rfl) ?_ (by assumption) ?_
      rotate_left
      · intro w hSw; (try dsimp only at hSw); go_simp; try (with_reducible rfl)
      try simp only [Act.put, List.setIfInBounds_toArray, List.set_cons_zero, List.set_cons_succ]
      refine GoE.take (i := 1) (v := ?_) rfl (by decide) (by kernel_rfl) (by kernel_rfl) (by kernel_rfl) (by kernel_rfl) (fun _ _ _ h => h) (by rfl) ?_ (by assumption) ?_
      rotate_left
      · intro w hSw; (try dsimp only at hSw); go_simp; try (with_reducible rfl)
      try simp only [Act.put, List.setIfInBounds_toArray, List.set_cons_zero, List.set_cons_succ]
      refine GoE.take (i := 2) (v := ?_) rfl (by decide) (by kernel_rfl) (by kernel_rfl) (by kernel_rfl) (by kernel_rfl) (fun _ _ _ h => h) (by rfl) ?_ (by assumption) ?_
      rotate_left
      · intro w hSw; (try dsimp only at hSw); go_simp; try (with_reducible rfl)
      try simp only [Act.put, List.setIfInBounds_toArray, List.set_cons_zero, List.set_cons_succ]
      refine GoE.take (i := 3) (v := ?_) rfl (by decide) (by kernel_rfl) (by kernel_rfl) (by kernel_rfl) (by kernel_rfl) (fun _ _ _ h => h) (by rfl) ?_ (by assumption) ?_
      rotate_left
      · intro w hSw; (try dsimp only at hSw); go_simp; try (with_reducible rfl)
      try simp only [Act.put, List.setIfInBounds_toArray, List.set_cons_zero, List.set_cons_succ]
      refine GoE.take (i := 4) (v := ?_) rfl (by decide) (by kernel_rfl) (by kernel_rfl) (by kernel_rfl) (by kernel_rfl) (fun _ _ _ h => h) (by rfl) ?_ (by assumption) ?_
      rotate_left
      · intro w hSw; (try dsimp only at hSw); go_simp; try (with_reducible rfl)
      try simp only [Act.put, List.setIfInBounds_toArray, List.set_cons_zero, List.set_cons_succ]
      refine GoE.one (i := 5) rfl (by kernel_rfl) (fun K hK => ?_)
      go_simp
      go_at_call 20
      (with_reducible refine kA.mono ?_)
      rintro ev w11 ⟨q, rfl, rfl, h11⟩
      go_wp2_with fail
      refine hK.out _ _ (fun _ => trivial) ?_
      clear hK K
      try simp only [Act.put, List.setIfInBounds_toArray, List.set_cons_zero, List.set_cons_succ]
      obtain ⟨wv, h12⟩ := sat_WrongR.1 (h11.pull 2 : SatL w11 (WrongR nb e bs :: _))
      obtain ⟨wa, wc, rfl, _, _⟩ := Sl.valn h12.tail (m := sn) (by rw [bvs_len]; exact Hsn.out)
      have v1 := RdB.conv (SlB.rd h12.tail)
      have v2 := RdB.conv (SlB.rd (h11.pull 1))
      obtain ⟨SB, hSB⟩ : ∃ SB : ByteArray, ⟨bs.toArray⟩ = SB := ⟨_, rfl⟩
      rw [hSB] at v1 v2
      have S1 : w11.cell? ⟨c9, 0, none⟩ = some (.pointer (some ⟨nb, 0, none⟩)) ∧ w11.cell? ⟨nb, 0, none⟩ = some (.int .i64 e) ∧ w11.cell? ⟨nb, 1, none⟩ = some (.slice wa sn wc) ∧ (convert 27 9 (.slice wa sn wc)).run Tryd.prog w11 = .ok (.string SB) w11 ∧ (convert 27 9 (.slice sa sn sc)).run Tryd.prog w11 = .ok (.string SB) w11 :=
        ⟨SatL.cell (h11 : SatL w11 (cl c9 _ _ :: _)) (i := 0) rfl, SatL.cell (h12 : SatL w11 (cl nb _ _ :: _)) (i := 0) rfl, SatL.cell (h12 : SatL w11 (cl nb _ _ :: _)) (i := 1) rfl, v1, v2⟩
      refine GoE.more (fun w' => w'.cell? ⟨c9, 0, none⟩ = some (.pointer (some ⟨nb, 0, none⟩)) ∧ w'.cell? ⟨nb, 0, none⟩ = some (.int .i64 e) ∧ w'.cell? ⟨nb, 1, none⟩ = some (.slice wa sn wc) ∧ (convert 27 9 (.slice wa sn wc)).run Tryd.prog w' = .ok (.string SB) w' ∧ (convert 27 9 (.slice sa sn sc)).run Tryd.prog w' = .ok (.string SB) w') (fun _ _ => trivial) ?_
      have kI := isw_ok (h11.pull 2 : SatL w11 (WrongR nb e bs :: _))
      have kW := werror_ok He.out (h11.pull 2 : SatL w11 (WrongR nb e bs :: _))
      have kE := errno_err He.out w11
      have Hfin := hid h11.tail.tail.tail.tail
      obtain ⟨ES, hES⟩ : ∃ ES : ByteArray, errS e = ES := ⟨_, rfl⟩
      rw [hES] at kW kE
      clear v1 v2 hSB h12 S0 kA hd hES h11
      refine GoE.take (i := 6) (v := ?_) rfl (by decide) (by kernel_rfl) (by kernel_rfl) (by kernel_rfl) (by kernel_rfl) (fun _ _ _ h => h) (by rfl) ?_ (by assumption) ?_
      rotate_left
      · intro w hSw; (try dsimp only at hSw); go_simp; try (with_reducible rfl)
      try simp only [Act.put, List.setIfInBounds_toArray, List.set_cons_zero, List.set_cons_succ]
      refine GoE.take (i := 7) (v := ?_) rfl (by decide) (by kernel_rfl) (by kernel_rfl) (by kernel_rfl) (by kernel_rfl) (fun _ _ _ h => h) (by rfl) ?_ (by assumption) ?_
      rotate_left
      · intro w hSw; (try dsimp only at hSw); go_simp; try (with_reducible rfl)
      try simp only [Act.put, List.setIfInBounds_toArray, List.set_cons_zero, List.set_cons_succ]
      refine GoE.take (i := 8) (v := ?_) rfl (by decide) (by kernel_rfl) (by kernel_rfl) (by kernel_rfl) (by kernel_rfl) (fun _ _ _ h => h) (by rfl) ?_ (by assumption) ?_
      rotate_left
      · intro w hSw; (try dsimp only at hSw); go_simp; try (with_reducible rfl)
      try simp only [Act.put, List.setIfInBounds_toArray, List.set_cons_zero, List.set_cons_succ]
      refine GoE.take (i := 9) (v := ?_) rfl (by decide) (by kernel_rfl) (by kernel_rfl) (by kernel_rfl) (by kernel_rfl) (fun _ _ _ h => h) (by rfl) ?_ (by assumption) ?_
      rotate_left
      · intro w hSw; (try dsimp only at hSw); go_simp; try (with_reducible rfl)
      try simp only [Act.put, List.setIfInBounds_toArray, List.set_cons_zero, List.set_cons_succ]
      refine GoE.take (i := 10) (v := ?_) rfl (by decide) (by kernel_rfl) (by kernel_rfl) (by kernel_rfl) (by kernel_rfl) (fun _ _ _ h => h) (by rfl) ?_ (by assumption) ?_
      rotate_left
      · intro w hSw; (try dsimp only at hSw); go_simp; try (with_reducible rfl)
      try simp only [Act.put, List.setIfInBounds_toArray, List.set_cons_zero, List.set_cons_succ]
      refine GoE.take (i := 11) (v := ?_) rfl (by decide) (by kernel_rfl) (by kernel_rfl) (by kernel_rfl) (by kernel_rfl) (fun _ _ _ h => h) (by rfl) ?_ (by assumption) ?_
      rotate_left
      · intro w hSw; (try dsimp only at hSw); go_simp; try (with_reducible rfl)
      try simp only [Act.put, List.setIfInBounds_toArray, List.set_cons_zero, List.set_cons_succ]
      refine GoE.take (i := 12) (v := ?_) rfl (by decide) (by kernel_rfl) (by kernel_rfl) (by kernel_rfl) (by kernel_rfl) (fun _ _ _ h => h) (by rfl) ?_ (by assumption) ?_
      rotate_left
      · intro w hSw; (try dsimp only at hSw); go_simp; try (with_reducible rfl)
      try simp only [Act.put, List.setIfInBounds_toArray, List.set_cons_zero, List.set_cons_succ]
      refine GoE.take (i := 13) (v := ?_) rfl (by decide) (by kernel_rfl) (by kernel_rfl) (by kernel_rfl) (by kernel_rfl) (fun _ _ _ h => h) (by rfl) ?_ (by assumption) ?_
      rotate_left
      · intro w hSw; (try dsimp only at hSw); go_simp; try (with_reducible rfl)
      try simp only [Act.put, List.setIfInBounds_toArray, List.set_cons_zero, List.set_cons_succ]
      refine GoE.take (i := 14) (v := ?_) rfl (by decide) (by kernel_rfl) (by kernel_rfl) (by kernel_rfl) (by kernel_rfl) (fun _ _ _ h => h) (by rfl) ?_ (by assumption) ?_
      rotate_left
      · intro w hSw; (try dsimp only at hSw); go_simp; try (with_reducible rfl)
      try simp only [Act.put, List.setIfInBounds_toArray, List.set_cons_zero, List.set_cons_succ]
      refine GoE.one (i := 15) rfl (by kernel_rfl) (fun K hK => ?_)
      go_simp
      go_at_call 31
      (with_reducible refine kI.mono ?_)
      rintro ev w12 ⟨rfl, rfl⟩
      go_wp2_with fail
      refine hK.out _ _ (fun _ => S1) ?_
      clear hK K kI
      try simp only [Act.put, List.setIfInBounds_toArray, List.set_cons_zero, List.set_cons_succ]
      refine GoE.take (i := 16) (v := ?_) rfl (by decide) (by kernel_rfl) (by kernel_rfl) (by kernel_rfl) (by kernel_rfl) (fun _ _ _ h => h) (by rfl) ?_ (by assumption) ?_
      rotate_left
      · intro w hSw; (try dsimp only at hSw); go_simp; try (with_reducible rfl)
      try simp only [Act.put, List.setIfInBounds_toArray, List.set_cons_zero, List.set_cons_succ]
      refine GoE.take (i := 17) (v := ?_) rfl (by decide) (by kernel_rfl) (by kernel_rfl) (by kernel_rfl) (by kernel_rfl) (fun _ _ _ h => h) (by rfl) ?_ (by assumption) ?_
      rotate_left
      · intro w hSw; (try dsimp only at hSw); go_simp; try (with_reducible rfl)
      try simp only [Act.put, List.setIfInBounds_toArray, List.set_cons_zero, List.set_cons_succ]
      refine GoE.take (i := 18) (v := ?_) rfl (by decide) (by kernel_rfl) (by kernel_rfl) (by kernel_rfl) (by kernel_rfl) (fun _ _ _ h => h) (by rfl) ?_ (by assumption) ?_
      rotate_left
      · intro w hSw; (try dsimp only at hSw); go_simp; try (with_reducible rfl)
      try simp only [Act.put, List.setIfInBounds_toArray, List.set_cons_zero, List.set_cons_succ]
      refine GoE.take (i := 19) (v := ?_) rfl (by decide) (by kernel_rfl) (by kernel_rfl) (by kernel_rfl) (by kernel_rfl) (fun _ _ _ h => h) (by rfl) ?_ (by assumption) ?_
      rotate_left
      · intro w hSw; (try dsimp only at hSw); go_simp; try (with_reducible rfl)
      try simp only [Act.put, List.setIfInBounds_toArray, List.set_cons_zero, List.set_cons_succ]
      refine GoE.take (i := 20) (v := ?_) rfl (by decide) (by kernel_rfl) (by kernel_rfl) (by kernel_rfl) (by kernel_rfl) (fun _ _ _ h => h) (by rfl) ?_ (by assumption) ?_
      rotate_left
      · intro w hSw; (try dsimp only at hSw); go_simp; try (with_reducible rfl)
      try simp only [Act.put, List.setIfInBounds_toArray, List.set_cons_zero, List.set_cons_succ]
      refine GoE.take (i := 21) (v := ?_) rfl (by decide) (by kernel_rfl) (by kernel_rfl) (by kernel_rfl) (by kernel_rfl) (fun _ _ _ h => h) (by rfl) ?_ (by assumption) ?_
      rotate_left
      · intro w hSw; (try dsimp only at hSw); go_simp; try (with_reducible rfl)
      try simp only [Act.put, List.setIfInBounds_toArray, List.set_cons_zero, List.set_cons_succ]
      refine GoE.take (i := 22) (v := ?_) rfl (by decide) (by kernel_rfl) (by kernel_rfl) (by kernel_rfl) (by kernel_rfl) (fun _ _ _ h => h) (by rfl) ?_ (by assumption) ?_
      rotate_left
      · intro w hSw; (try dsimp only at hSw); go_simp; try (with_reducible rfl)
      try simp only [Act.put, List.setIfInBounds_toArray, List.set_cons_zero, List.set_cons_succ]
      refine GoE.take (i := 23) (v := ?_) rfl (by decide) (by kernel_rfl) (by kernel_rfl) (by kernel_rfl) (by kernel_rfl) (fun _ _ _ h => h) (by rfl) ?_ (by assumption) ?_
      rotate_left
      · intro w hSw; (try dsimp only at hSw); go_simp; try (with_reducible rfl)
      try simp only [Act.put, List.setIfInBounds_toArray, List.set_cons_zero, List.set_cons_succ]
      refine GoE.take (i := 24) (v := ?_) rfl (by decide) (by kernel_rfl) (by kernel_rfl) (by kernel_rfl) (by kernel_rfl) (fun _ _ _ h => h) (by rfl) ?_ (by assumption) ?_
      rotate_left
      · intro w hSw; (try dsimp only at hSw); go_simp; try (with_reducible rfl)
      try simp only [Act.put, List.setIfInBounds_toArray, List.set_cons_zero, List.set_cons_succ]
      refine GoE.take (i := 25) (v := ?_) rfl (by decide) (by kernel_rfl) (by kernel_rfl) (by kernel_rfl) (by kernel_rfl) (fun _ _ _ h => h) (by rfl) ?_ (by assumption) ?_
      rotate_left
      · intro w hSw; (try dsimp only at hSw); go_simp; try (with_reducible rfl)
      try simp only [Act.put, List.setIfInBounds_toArray, List.set_cons_zero, List.set_cons_succ]
      refine GoE.take (i := 26) (v := ?_) rfl (by decide) (by kernel_rfl) (by kernel_rfl) (by kernel_rfl) (by kernel_rfl) (fun _ _ _ h => h) (by rfl) ?_ (by assumption) ?_
      rotate_left
      · intro w hSw; (try dsimp only at hSw); go_simp; try (with_reducible rfl)
      try simp only [Act.put, List.setIfInBounds_toArray, List.set_cons_zero, List.set_cons_succ]
      refine GoE.take (i := 27) (v := ?_) rfl (by decide) (by kernel_rfl) (by kernel_rfl) (by kernel_rfl) (by kernel_rfl) (fun _ _ _ h => h) (by rfl) ?_ (by assumption) ?_
      rotate_left
      · intro w hSw; (try dsimp only at hSw); go_simp; try (with_reducible rfl)
      try simp only [Act.put, List.setIfInBounds_toArray, List.set_cons_zero, List.set_cons_succ]
      refine GoE.take (i := 28) (v := ?_) rfl (by decide) (by kernel_rfl) (by kernel_rfl) (by kernel_rfl) (by kernel_rfl) (fun _ _ _ h => h) (by rfl) ?_ (by assumption) ?_
      rotate_left
      · intro w hSw; (try dsimp only at hSw); go_simp; try (with_reducible rfl)
      try simp only [Act.put, List.setIfInBounds_toArray, List.set_cons_zero, List.set_cons_succ]
      refine GoE.take (i := 29) (v := ?_) rfl (by decide) (by kernel_rfl) (by kernel_rfl) (by kernel_rfl) (by kernel_rfl) (fun _ _ _ h => h) (by rfl) ?_ (by assumption) ?_
      rotate_left
      · intro w hSw; (try dsimp only at hSw); go_simp; try (with_reducible rfl)
      try simp only [Act.put, List.setIfInBounds_toArray, List.set_cons_zero, List.set_cons_succ]
      refine GoE.take (i := 30) (v := ?_) rfl (by decide) (by kernel_rfl) (by kernel_rfl) (by kernel_rfl) (by kernel_rfl) (fun _ _ _ h => h) (by rfl) ?_ (by assumption) ?_
      rotate_left
      · intro w hSw; (try dsimp only at hSw); go_simp; try (with_reducible rfl)
      try simp only [Act.put, List.setIfInBounds_toArray, List.set_cons_zero, List.set_cons_succ]
      refine GoE.take (i := 31) (v := ?_) rfl (by decide) (by kernel_rfl) (by kernel_rfl) (by kernel_rfl) (by kernel_rfl) (fun _ _ _ h => h) (by rfl) ?_ (by assumption) ?_
      rotate_left
      · intro w hSw; (try dsimp only at hSw); go_simp; try (with_reducible rfl)
      try simp only [Act.put, List.setIfInBounds_toArray, List.set_cons_zero, List.set_cons_succ]
      refine GoE.take (i := 32) (v := ?_) rfl (by decide) (by kernel_rfl) (by kernel_rfl) (by kernel_rfl) (by kernel_rfl) (fun _ _ _ h => h) (by rfl) ?_ (by assumption) ?_
      rotate_left
      · intro w hSw; (try dsimp only at hSw); go_simp; try (with_reducible rfl)
      try simp only [Act.put, List.setIfInBounds_toArray, List.set_cons_zero, List.set_cons_succ]
      refine GoE.take (i := 33) (v := ?_) rfl (by decide) (by kernel_rfl) (by kernel_rfl) (by kernel_rfl) (by kernel_rfl) (fun _ _ _ h => h) (by rfl) ?_ (by assumption) ?_
      rotate_left
      · intro w hSw; (try dsimp only at hSw); go_simp; try (with_reducible rfl)
      try simp only [Act.put, List.setIfInBounds_toArray, List.set_cons_zero, List.set_cons_succ]
      refine GoE.take (i := 34) (v := ?_) rfl (by decide) (by kernel_rfl) (by kernel_rfl) (by kernel_rfl) (by kernel_rfl) (fun _ _ _ h => h) (by rfl) ?_ (by assumption) ?_
      rotate_left
      · intro w hSw; (try dsimp only at hSw); go_simp; try (with_reducible rfl)
      try simp only [Act.put, List.setIfInBounds_toArray, List.set_cons_zero, List.set_cons_succ]
      refine GoE.take (i := 35) (v := ?_) rfl (by decide) (by kernel_rfl) (by kernel_rfl) (by kernel_rfl) (by kernel_rfl) (fun _ _ _ h => h) (by rfl) ?_ (by assumption) ?_
      rotate_left
      · intro w hSw; (try dsimp only at hSw); go_simp; try (with_reducible rfl)
      try simp only [Act.put, List.setIfInBounds_toArray, List.set_cons_zero, List.set_cons_succ]
      refine GoE.take (i := 36) (v := ?_) rfl (by decide) (by kernel_rfl) (by kernel_rfl) (by kernel_rfl) (by kernel_rfl) (fun _ _ _ h => h) (by rfl) ?_ (by assumption) ?_
      rotate_left
      · intro w hSw; (try dsimp only at hSw); go_simp; try (with_reducible rfl)
      try simp only [Act.put, List.setIfInBounds_toArray, List.set_cons_zero, List.set_cons_succ]
      refine GoE.take (i := 38) (v := ?_) rfl (by decide) (by kernel_rfl) (by kernel_rfl) (by kernel_rfl) (by kernel_rfl) (fun _ _ _ h => h) (by rfl) ?_ (by assumption) ?_
      rotate_left
      · intro w hSw; (try dsimp only at hSw); go_simp; try (with_reducible rfl)
      try simp only [Act.put, List.setIfInBounds_toArray, List.set_cons_zero, List.set_cons_succ]
      have mE := wError ⟨nb, 0, none⟩
      refine GoE.one (i := 37) rfl (by kernel_rfl) (fun K hK => ?_)
      go_simp
      (with_reducible refine kW.mono ?_)
      rintro ev w13 ⟨rfl, rfl⟩
      go_wp2_with fail
      refine hK.out _ _ (fun _ => S1) ?_
      clear hK K kW mE
      try simp only [Act.put, List.setIfInBounds_toArray, List.set_cons_zero, List.set_cons_succ]
      refine GoE.one (i := 39) rfl (by kernel_rfl) (fun K hK => ?_)
      go_simp
      go_at_call 32
      (with_reducible refine kE.mono ?_)
      rintro ev w14 ⟨rfl, rfl⟩
      go_wp2_with fail
      refine hK.out _ _ (fun _ => S1) ?_
      clear hK K kE
      try simp only [Act.put, List.setIfInBounds_toArray, List.set_cons_zero, List.set_cons_succ]
      refine GoE.take (i := 40) (v := ?_) rfl (by decide) (by kernel_rfl) (by kernel_rfl) (by kernel_rfl) (by kernel_rfl) (fun _ _ _ h => h) (by rfl) ?_ (by assumption) ?_
      rotate_left
      · intro w hSw; (try dsimp only at hSw); go_simp; try (with_reducible rfl)
      try simp only [Act.put, List.setIfInBounds_toArray, List.set_cons_zero, List.set_cons_succ]
      refine GoE.take (i := 41) (v := ?_) rfl (by decide) (by kernel_rfl) (by kernel_rfl) (by kernel_rfl) (by kernel_rfl) (fun _ _ _ h => h) (by rfl) ?_ (by assumption) ?_
      rotate_left
      · intro w hSw; (try dsimp only at hSw); go_simp; try (with_reducible rfl)
      try simp only [Act.put, List.setIfInBounds_toArray, List.set_cons_zero, List.set_cons_succ]
      refine GoE.one (i := 42) rfl (by kernel_rfl) (fun K hK => ?_)
      go_simp
      refine hK.out _ _ (fun h => absurd rfl h) ?_
      clear hK K
      try simp only [Act.put, List.setIfInBounds_toArray, List.set_cons_zero, List.set_cons_succ]
      refine GoE.done (by kernel_rfl) ?_
      go_wp2_with fail
      go_ret
      exact Ret.mk ⟨rfl, Hfin.out⟩
    | good cc =>
      obtain ⟨xi, pr, ve, po, ui, gi, gs, bo⟩ := cc
      obtain ⟨gn, hgn⟩ : ∃ gn, gs.length = gn := ⟨_, rfl⟩
      obtain ⟨bn, hbn⟩ : ∃ bn, bo.length = bn := ⟨_, rfl⟩
      have Hgn := hid hgn
      have Hbn := hid hbn
      have HQ := hid hq
      clear hl hq hgn hbn
      go_enter Tryd.func10, Tryd.ntmps10
      go_upto_region 8 with (first
        | (go_at_call 12; (with_reducible refine kK.mono ?_); rintro ev w1 ⟨q, rfl, rfl, hs⟩; have gv1 := Gg.out w1 hs; have hs1 := hid hs; clear hs kK)
        | (at_builtin; refine wpList_newcopy (w := w1) (nb := w1.heap.size) rfl rfl (.tmp 15) (.tmp 16) rfl rfl rfl hs1.out Hbl.out gv1 hbl2 ?_; intro a2 c2 w2 _ h2; have kp := parse_ok hb7.out h2 (fun w' h' => SlB.rd h') HG.out.nx; rw [HQ.out] at kp; clear gv1 h2)
        | (go_at_call 14; (with_reducible refine kp.mono ?_); rintro ev w4 ⟨q, rfl, gv, bv, hv, h4⟩; obtain ⟨ga, gc, rfl, _, _⟩ := Sl.valn h4 (m := gn) (by rw [List.length_map]; exact Hgn.out); obtain ⟨ba, bc, rfl, _, _⟩ := Sl.valn h4.tail (m := bn) (by rw [bvs_len]; exact Hbn.out); simp only [CallL.cells] at hv; subst hv; have h5 := h4.alloc (.cells #[.int .u32 (xi : Int), .int .u32 (pr : Int), .int .u32 (ve : Int), .int .u32 (po : Int), .int .u32 (ui : Int), .int .u32 (gi : Int), .slice ga gn gc, .slice ba bn bc] 30); have kr := refparse_ok hb7.out h5 Gg.out.nx.nx.nx.nx; rw [HQ.out] at kr; clear kp h4 h5)
        | (go_at_call 30; (with_reducible refine kr.mono ?_); rintro ev w6 ⟨q, rfl, hv, dv, he, h6⟩; obtain ⟨ha, hc, rfl, _, _⟩ := Sl.valn h6 (m := gn) (by rw [List.length_map]; exact Hgn.out); obtain ⟨da, dc, rfl, _, _⟩ := Sl.valn h6.tail (m := bn) (by rw [bvs_len]; exact Hbn.out); simp only [CallL.cells] at he; subst he; clear kr))
      obtain ⟨c4, hc4⟩ : ∃ c4, c4 = w4.heap.size := ⟨_, rfl⟩
      obtain ⟨c6, hc6⟩ : ∃ c6, c6 = w6.heap.size := ⟨_, rfl⟩
      have h7 : SatL _ (cl w6.heap.size 64 #[.int .u32 (xi : Int), .int .u32 (pr : Int), .int .u32 (ve : Int), .int .u32 (po : Int), .int .u32 (ui : Int), .int .u32 (gi : Int), .slice ha gn hc, .slice da bn dc] :: Sl 22 (.slice ha gn hc) (gs.map u32v) :: SlB 5 (.slice da bn dc) bo :: cl w4.heap.size 30 #[.int .u32 (xi : Int), .int .u32 (pr : Int), .int .u32 (ve : Int), .int .u32 (po : Int), .int .u32 (ui : Int), .int .u32 (gi : Int), .slice ga gn gc, .slice ba bn bc] :: Sl 22 (.slice ga gn gc) (gs.map u32v) :: SlB 5 (.slice ba bn bc) bo :: SlB 5 (.slice a2 bl c2) b :: L) := h6.alloc (.cells #[.int .u32 (xi : Int), .int .u32 (pr : Int), .int .u32 (ve : Int), .int .u32 (po : Int), .int .u32 (ui : Int), .int .u32 (gi : Int), .slice ha gn hc, .slice da bn dc] 64)
      generalize w6.alloc (.cells #[.int .u32 (xi : Int), .int .u32 (pr : Int), .int .u32 (ve : Int), .int .u32 (po : Int), .int .u32 (ui : Int), .int .u32 (gi : Int), .slice ha gn hc, .slice da bn dc] 64) = w7 at h7 ⊢
      rw [← hc4, ← hc6] at h7 ⊢
      clear hc4 hc6 h6
      obtain ⟨x0, x1, x2, x3, x4, x5, x6, x7⟩ := set8r_sat (h7.pull 3 : SatL w7 (cl c4 _ #[_, _, _, _, _, _, _, _] :: _))
      obtain ⟨y0, y1, y2, y3, y4, y5, y6, y7⟩ := set8r_sat (h7 : SatL w7 (cl c6 _ #[_, _, _, _, _, _, _, _] :: _))
      have v1 := RdB.conv (SlB.rd (h7.pull 6))
      have v2 := RdV.conv (Gg.out w7 h7.tail.tail.tail.tail.tail.tail.tail)
      have kS := same_ok (xi := xi) (pr := pr) (ve := ve) (po := po) (ui := ui) (gi := gi) (gs := gs) (bo := bo) (gv1 := .slice ga gn gc) (gv2 := .slice ha gn hc) (bv1 := .slice ba bn bc) (bv2 := .slice da bn dc) h7 (fun w' h' => SlW.rd (h'.pull 4)) (fun w' h' => SlW.rd (h'.pull 1)) (fun w' h' => RdB.v (SlB.rd (h'.pull 5))) (fun w' h' => RdB.v (SlB.rd (h'.pull 2)))
      obtain ⟨SB, hSB⟩ : ∃ SB : ByteArray, ⟨b.toArray⟩ = SB := ⟨_, rfl⟩
      rw [hSB] at v1 v2
      have Hfin := hid (fun (w' : World) (h' : SatL w' (cl c6 64 #[.int .u32 (xi : Int), .int .u32 (pr : Int), .int .u32 (ve : Int), .int .u32 (po : Int), .int .u32 (ui : Int), .int .u32 (gi : Int), .slice ha gn hc, .slice da bn dc] :: Sl 22 (.slice ha gn hc) (gs.map u32v) :: SlB 5 (.slice da bn dc) bo :: cl c4 30 #[.int .u32 (xi : Int), .int .u32 (pr : Int), .int .u32 (ve : Int), .int .u32 (po : Int), .int .u32 (ui : Int), .int .u32 (gi : Int), .slice ga gn gc, .slice ba bn bc] :: Sl 22 (.slice ga gn gc) (gs.map u32v) :: SlB 5 (.slice ba bn bc) bo :: SlB 5 (.slice a2 bl c2) b :: L)) => h'.tail.tail.tail.tail.tail.tail.tail)
      clear hSB h7
      go_wp2_with (first
        | (go_at_call 29; (with_reducible refine kS.mono ?_); rintro ev w8 ⟨q, rfl, rfl, h8⟩))
      go_ret
      exact Ret.mk ⟨rfl, Hfin.out _ h8⟩
theorem calls_walk {v : Value} {b : List UInt8} (w : World) (h : RdV v b w) (hH : HndW w) :
    Calls Tryd.prog 10 #[v] w (Ret fun q w' => q = .bool true ∧ SatL w' [old w]) :=
  calls_ok (sat_old w) h.old hH.old
end
end Go.Proofs.YtpecmkkcepnpeaaDoor
