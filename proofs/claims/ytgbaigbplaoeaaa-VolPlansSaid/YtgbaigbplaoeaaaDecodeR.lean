/- the document's Decode over bytes that lie elsewhere. Condition: they are 512. Printed by gendecr.py. -/
import Derived.Test.YtgbaigbplaoeaaaDecodeB
namespace Go.Proofs.Ytgbaigbplaoeaaa
set_option linter.unusedVariables false
set_option linter.unusedSimpArgs false
open Go.RowKit
section
variable {w : World} {L : List HP}
theorem rd508R {b off c : Nat} {bs : List UInt8} (hl : bs.length = 512) (h : RdB (.slice (some ⟨b, off, none⟩) 512 c) bs w) : RdB (.slice (some ⟨b, off, none⟩) 508 c) (bs.take 508) w := by
  have := h.sub (i := 0) (j := 508) (by omega) (by omega)
  rw [List.drop_zero] at this
  exact this
theorem conv8R {b off c : Nat} {bs : List UInt8} (hl : bs.length = 512) (h : RdB (.slice (some ⟨b, off, none⟩) 512 c) bs w) :
    (convert 23 9 (.slice (some ⟨b, off, none⟩) 8 c)).run Try.prog w = .ok (.string ⟨(bs.take 8).toArray⟩) w := by
  obtain ⟨z1, z2, z3, b', off', e, hc⟩ := h.at (by omega)
  cases e
  have hlen : (bs.take 8).length = 8 := by rw [List.length_take]; omega
  have := run_convert_bytes_back (P := Try.prog) w 23 9 5 ⟨b, off, none⟩ c (bs.take 8) Try.underlying23 Try.underlying5 (by kernel_rfl) (by
    intro j hj
    have hj8 : j < 8 := by omega
    rw [addr_add, hc j (by omega)]
    congr 3
    rw [List.getElem_take, List.getD_eq_getElem?_getD, List.getElem?_eq_getElem (by omega)]
    rfl)
  rw [hlen] at this
  exact this
set_option maxRecDepth 100000 in
set_option maxHeartbeats 2000000 in
theorem refdecodeR_ok {v : Value} {bs : List UInt8} (hl : bs.length = 512) (h : SatL w L) (g : Gives L (RdB v bs)) :
    Calls Try.prog 12 #[v] w (Ret fun r w' => r = .tuple #[decV bs, .int .i64 (decE bs)] ∧ SatL w' L) := by
  obtain ⟨a, c, rfl, q1, q2⟩ := (g w h).valn
  obtain ⟨z1, z2, z3, b, off, rfl, z4⟩ := (g w h).at (by omega)
  clear z1 z2 z3 z4
  rw [hl] at g q1 ⊢
  have Gg := hid g
  clear g
  have k1 := h.alloc (.cells #[.int .i64 0, .int .i64 0, .int .i64 0, .int .i64 0, .int .i64 0, .int .i64 0, .int .i64 0, .int .i64 0] 26)
  have rd := Gg.out _ k1.tail
  have l1 := refle_in (at_ := 8) (k := 4) (.inr (.inr (.inl rfl))) (by omega) rd
  have l2 := refle_in (at_ := 12) (k := 4) (.inr (.inr (.inl rfl))) (by omega) rd
  have l3 := refle_in (at_ := 508) (k := 4) (.inr (.inr (.inl rfl))) (by omega) rd
  have b1 := le4_lt bs 8
  have b2 := le4_lt bs 12
  have b3 := le4_lt bs 508
  have hp := refplan_ok k1 (decB bs) (decI bs)
  have he : decE bs = if bs.take 8 ≠ word8 ∨ planErr (decB bs) (decI bs) ≠ 0 then 15 else if decS bs ≠ crcN (bs.take 508) then 13 else 0 := rfl
  have hv : decV bs = if decE bs = 0 then planV (decB bs) (decI bs) (tableOf (decB bs)) (dataOf (decB bs) (decI bs)) else noplan := rfl
  have hB : leN ((bs.drop 8).take 4) = decB bs := rfl
  have hI : leN ((bs.drop 12).take 4) = decI bs := rfl
  have hS : leN ((bs.drop 508).take 4) = decS bs := rfl
  rw [hB] at l1 b1
  rw [hI] at l2 b2
  rw [hS] at l3 b3
  clear hB hI hS
  generalize decB bs = B at *
  generalize decI bs = I at *
  generalize decS bs = S at *
  rw [show ((8 : Nat) : Int) = 8 from rfl, show ((4 : Nat) : Int) = 4 from rfl] at l1
  rw [show ((12 : Nat) : Int) = 12 from rfl, show ((4 : Nat) : Int) = 4 from rfl] at l2
  rw [show ((508 : Nat) : Int) = 508 from rfl, show ((4 : Nat) : Int) = 4 from rfl] at l3
  by_cases hpe : planErr B I = 0
  · have hsup : planSup B I = planV B I (tableOf B) (dataOf B I) := by unfold planSup; rw [if_pos hpe]
    rw [planV] at hsup
    unfold PlanPost at hp
    rw [hsup, hpe] at hp
    have hcv := fun (w : World) (h : SatL w L) => conv8R hl (Gg.out w h)
    have hcc := fun (w : World) (h : SatL w L) => refcrc_ok (rd508R hl (Gg.out w h))
    have u1 := u32_in S b3
    generalize hT : tableOf B = TT at *
    generalize hD : dataOf B I = DD at *
    by_cases h8 : bs.take 8 = word8
    · rw [str8 h8] at hcv
      by_cases hS : S = crcN (bs.take 508)
      · have He := hid (show decE bs = 0 by rw [he, if_neg (by simp [h8, hpe]), if_neg (by simp [hS])])
        have Hv := hid (show decV bs = planV B I TT DD by rw [hv, if_pos He.out])
        clear he hv hsup hpe
        generalize crcN (bs.take 508) = C at *
        subst hS
        go_enter Try.func12, Try.ntmps12
        go_wp2_with (first
      | (go_at_call 40; first
          | ((with_reducible refine l1.mono ?_); rintro e w1 ⟨rfl, rfl⟩)
          | ((with_reducible refine l2.mono ?_); rintro e w1 ⟨rfl, rfl⟩)
          | ((with_reducible refine l3.mono ?_); rintro e w1 ⟨rfl, rfl⟩))
      | (go_at_call 37; (with_reducible refine hcr.mono ?_); rintro e w3 ⟨rfl, rfl⟩)
      | (go_at_call 9; (with_reducible refine hp.mono ?_); rintro e w2 ⟨v2, rfl, rfl, hs2⟩; have k5 := hs2.alloc (.cells #[.int .i64 B, .int .i64 I, .int .i64 1, .int .i64 2, .int .i64 68, .int .i64 69, .int .i64 TT, .int .i64 DD] 26); have cv := hcv _ k5.tail.tail; have hcr := hcc _ k5.tail.tail; have rz := fun k v (h : (#[.int .i64 B, .int .i64 I, .int .i64 1, .int .i64 2, .int .i64 68, .int .i64 69, .int .i64 TT, .int .i64 DD] : Array Value)[k]? = some v) => SatL.cell k5 h; have y0 := rz 0 _ rfl; have y1 := rz 1 _ rfl; have y2 := rz 2 _ rfl; have y3 := rz 3 _ rfl; have y4 := rz 4 _ rfl; have y5 := rz 5 _ rfl; have y6 := rz 6 _ rfl; have y7 := rz 7 _ rfl; clear rz; have k6 : SatL _ (cl w.heap.size 26 _ :: _) := k5.pull 1; obtain ⟨W, HW, hfin⟩ := dec_end (.int .i64 B) (.int .i64 I) (.int .i64 1) (.int .i64 2) (.int .i64 68) (.int .i64 69) (.int .i64 TT) (.int .i64 DD) k6; have z0 := SatL.cell k6 (i := 0) rfl; have f0 := SatL.free k6 0; have z1 := SatL.cell k6 (i := 1) rfl; have f1 := SatL.free k6 1; have z2 := SatL.cell k6 (i := 2) rfl; have f2 := SatL.free k6 2; have z3 := SatL.cell k6 (i := 3) rfl; have f3 := SatL.free k6 3; have z4 := SatL.cell k6 (i := 4) rfl; have f4 := SatL.free k6 4; have z5 := SatL.cell k6 (i := 5) rfl; have f5 := SatL.free k6 5; have z6 := SatL.cell k6 (i := 6) rfl; have f6 := SatL.free k6 6; have z7 := SatL.cell k6 (i := 7) rfl; have f7 := SatL.free k6 7))
        all_goals
          rw [HW.out]
          have r0 := SatL.cell hfin (i := 0) rfl
          have r1 := SatL.cell hfin (i := 1) rfl
          have r2 := SatL.cell hfin (i := 2) rfl
          have r3 := SatL.cell hfin (i := 3) rfl
          have r4 := SatL.cell hfin (i := 4) rfl
          have r5 := SatL.cell hfin (i := 5) rfl
          have r6 := SatL.cell hfin (i := 6) rfl
          have r7 := SatL.cell hfin (i := 7) rfl
          refine bodyPost_ret (v := .tuple #[planV B I TT DD, .int .i64 0]) (by simp [results, Try.results12, go_sem, noplan, planV, r0, r1, r2, r3, r4, r5, r6, r7]) rfl (Ret.mk ⟨by rw [Hv.out, He.out], ?_⟩)
          exact SatL.tail (SatL.tail hfin)
      · have He := hid (show decE bs = 13 by rw [he, if_neg (by simp [h8, hpe]), if_pos hS])
        have Hv := hid (show decV bs = noplan by rw [hv, He.out]; rfl)
        clear he hv hsup hpe
        have hS2 : ((S : Int) != ((crcN (bs.take 508) : Nat) : Int)) = true := by simp; omega
        generalize crcN (bs.take 508) = C at *
        clear hS
        go_enter Try.func12, Try.ntmps12
        go_wp2_with (first
      | (go_at_call 40; first
          | ((with_reducible refine l1.mono ?_); rintro e w1 ⟨rfl, rfl⟩)
          | ((with_reducible refine l2.mono ?_); rintro e w1 ⟨rfl, rfl⟩)
          | ((with_reducible refine l3.mono ?_); rintro e w1 ⟨rfl, rfl⟩))
      | (go_at_call 37; (with_reducible refine hcr.mono ?_); rintro e w3 ⟨rfl, rfl⟩)
      | (go_at_call 9; (with_reducible refine hp.mono ?_); rintro e w2 ⟨v2, rfl, rfl, hs2⟩; have k5 := hs2.alloc (.cells #[.int .i64 B, .int .i64 I, .int .i64 1, .int .i64 2, .int .i64 68, .int .i64 69, .int .i64 TT, .int .i64 DD] 26); have cv := hcv _ k5.tail.tail; have hcr := hcc _ k5.tail.tail; have k6 : SatL _ (cl w.heap.size 26 _ :: _) := k5.pull 1; obtain ⟨W, HW, hfin⟩ := dec_end (.int .i64 0) (.int .i64 0) (.int .i64 0) (.int .i64 0) (.int .i64 0) (.int .i64 0) (.int .i64 0) (.int .i64 0) k6; have z0 := SatL.cell k6 (i := 0) rfl; have f0 := SatL.free k6 0; have z1 := SatL.cell k6 (i := 1) rfl; have f1 := SatL.free k6 1; have z2 := SatL.cell k6 (i := 2) rfl; have f2 := SatL.free k6 2; have z3 := SatL.cell k6 (i := 3) rfl; have f3 := SatL.free k6 3; have z4 := SatL.cell k6 (i := 4) rfl; have f4 := SatL.free k6 4; have z5 := SatL.cell k6 (i := 5) rfl; have f5 := SatL.free k6 5; have z6 := SatL.cell k6 (i := 6) rfl; have f6 := SatL.free k6 6; have z7 := SatL.cell k6 (i := 7) rfl; have f7 := SatL.free k6 7))
        all_goals
          rw [HW.out]
          have r0 := SatL.cell hfin (i := 0) rfl
          have r1 := SatL.cell hfin (i := 1) rfl
          have r2 := SatL.cell hfin (i := 2) rfl
          have r3 := SatL.cell hfin (i := 3) rfl
          have r4 := SatL.cell hfin (i := 4) rfl
          have r5 := SatL.cell hfin (i := 5) rfl
          have r6 := SatL.cell hfin (i := 6) rfl
          have r7 := SatL.cell hfin (i := 7) rfl
          refine bodyPost_ret (v := .tuple #[noplan, .int .i64 13]) (by simp [results, Try.results12, go_sem, noplan, planV, r0, r1, r2, r3, r4, r5, r6, r7]) rfl (Ret.mk ⟨by rw [Hv.out, He.out], ?_⟩)
          exact SatL.tail (SatL.tail hfin)
    · have He := hid (show decE bs = 15 by rw [he, if_pos (.inl h8)])
      have Hv := hid (show decV bs = noplan by rw [hv, He.out]; rfl)
      have hs8 := str8_list h8
      clear he hv hsup hpe h8
      generalize (⟨(bs.take 8).toArray⟩ : ByteArray) = s8 at *
      go_enter Try.func12, Try.ntmps12
      go_wp2_with (first
      | (go_at_call 40; first
          | ((with_reducible refine l1.mono ?_); rintro e w1 ⟨rfl, rfl⟩)
          | ((with_reducible refine l2.mono ?_); rintro e w1 ⟨rfl, rfl⟩)
          | ((with_reducible refine l3.mono ?_); rintro e w1 ⟨rfl, rfl⟩))
      | (go_at_call 9; (with_reducible refine hp.mono ?_); rintro e w2 ⟨v2, rfl, rfl, hs2⟩; have k5 := hs2.alloc (.cells #[.int .i64 B, .int .i64 I, .int .i64 1, .int .i64 2, .int .i64 68, .int .i64 69, .int .i64 TT, .int .i64 DD] 26); have cv := hcv _ k5.tail.tail; have k6 : SatL _ (cl w.heap.size 26 _ :: _) := k5.pull 1; obtain ⟨W, HW, hfin⟩ := dec_end (.int .i64 0) (.int .i64 0) (.int .i64 0) (.int .i64 0) (.int .i64 0) (.int .i64 0) (.int .i64 0) (.int .i64 0) k6; have z0 := SatL.cell k6 (i := 0) rfl; have f0 := SatL.free k6 0; have z1 := SatL.cell k6 (i := 1) rfl; have f1 := SatL.free k6 1; have z2 := SatL.cell k6 (i := 2) rfl; have f2 := SatL.free k6 2; have z3 := SatL.cell k6 (i := 3) rfl; have f3 := SatL.free k6 3; have z4 := SatL.cell k6 (i := 4) rfl; have f4 := SatL.free k6 4; have z5 := SatL.cell k6 (i := 5) rfl; have f5 := SatL.free k6 5; have z6 := SatL.cell k6 (i := 6) rfl; have f6 := SatL.free k6 6; have z7 := SatL.cell k6 (i := 7) rfl; have f7 := SatL.free k6 7))
      all_goals
        rw [HW.out]
        have r0 := SatL.cell hfin (i := 0) rfl
        have r1 := SatL.cell hfin (i := 1) rfl
        have r2 := SatL.cell hfin (i := 2) rfl
        have r3 := SatL.cell hfin (i := 3) rfl
        have r4 := SatL.cell hfin (i := 4) rfl
        have r5 := SatL.cell hfin (i := 5) rfl
        have r6 := SatL.cell hfin (i := 6) rfl
        have r7 := SatL.cell hfin (i := 7) rfl
        refine bodyPost_ret (v := .tuple #[noplan, .int .i64 15]) (by simp [results, Try.results12, go_sem, noplan, planV, r0, r1, r2, r3, r4, r5, r6, r7]) rfl (Ret.mk ⟨by rw [Hv.out, He.out], ?_⟩)
        exact SatL.tail (SatL.tail hfin)
  · have hsup : planSup B I = noplan := by unfold planSup; rw [if_neg hpe]
    have He := hid (show decE bs = 15 by rw [he, if_pos (.inr hpe)])
    have Hv := hid (show decV bs = noplan by rw [hv, He.out]; rfl)
    clear he hv
    rw [noplan] at hsup
    unfold PlanPost at hp
    rw [hsup] at hp
    generalize planErr B I = pe at *
    have hpe2 : (pe != 0) = true := by simpa using hpe
    have hcv := fun (w : World) (h : SatL w L) => conv8R hl (Gg.out w h)
    generalize (⟨(bs.take 8).toArray⟩ : ByteArray) = s8 at *
    clear hpe hsup
    go_enter Try.func12, Try.ntmps12
    go_wp2_with (first
      | (go_at_call 40; first
          | ((with_reducible refine l1.mono ?_); rintro e w1 ⟨rfl, rfl⟩)
          | ((with_reducible refine l2.mono ?_); rintro e w1 ⟨rfl, rfl⟩)
          | ((with_reducible refine l3.mono ?_); rintro e w1 ⟨rfl, rfl⟩))
      | (go_at_call 9; (with_reducible refine hp.mono ?_); rintro e w2 ⟨v2, rfl, rfl, hs2⟩; have k5 := hs2.alloc (.cells #[.int .i64 0, .int .i64 0, .int .i64 0, .int .i64 0, .int .i64 0, .int .i64 0, .int .i64 0, .int .i64 0] 26); have cv := hcv _ k5.tail.tail; have k6 : SatL _ (cl w.heap.size 26 _ :: _) := k5.pull 1; obtain ⟨W, HW, hfin⟩ := dec_end (.int .i64 0) (.int .i64 0) (.int .i64 0) (.int .i64 0) (.int .i64 0) (.int .i64 0) (.int .i64 0) (.int .i64 0) k6; have z0 := SatL.cell k6 (i := 0) rfl; have f0 := SatL.free k6 0; have z1 := SatL.cell k6 (i := 1) rfl; have f1 := SatL.free k6 1; have z2 := SatL.cell k6 (i := 2) rfl; have f2 := SatL.free k6 2; have z3 := SatL.cell k6 (i := 3) rfl; have f3 := SatL.free k6 3; have z4 := SatL.cell k6 (i := 4) rfl; have f4 := SatL.free k6 4; have z5 := SatL.cell k6 (i := 5) rfl; have f5 := SatL.free k6 5; have z6 := SatL.cell k6 (i := 6) rfl; have f6 := SatL.free k6 6; have z7 := SatL.cell k6 (i := 7) rfl; have f7 := SatL.free k6 7))
    all_goals
      rw [HW.out]
      have r0 := SatL.cell hfin (i := 0) rfl
      have r1 := SatL.cell hfin (i := 1) rfl
      have r2 := SatL.cell hfin (i := 2) rfl
      have r3 := SatL.cell hfin (i := 3) rfl
      have r4 := SatL.cell hfin (i := 4) rfl
      have r5 := SatL.cell hfin (i := 5) rfl
      have r6 := SatL.cell hfin (i := 6) rfl
      have r7 := SatL.cell hfin (i := 7) rfl
      refine bodyPost_ret (v := .tuple #[noplan, .int .i64 15]) (by simp [results, Try.results12, go_sem, noplan, r0, r1, r2, r3, r4, r5, r6, r7]) rfl (Ret.mk ⟨by rw [Hv.out, He.out], ?_⟩)
      exact SatL.tail (SatL.tail hfin)
end
end Go.Proofs.Ytgbaigbplaoeaaa
