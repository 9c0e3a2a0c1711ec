/- A queue's two sides are made: NewDriver, NewDevice. No condition beside the sizes that each names. -/
import Derived.Test.YtnniipeoahpkcaaVqA
namespace Go.Proofs.Ytnniipeoahpkcaa
set_option linter.unusedVariables false
set_option linter.unusedSimpArgs false
open Go.RowKit
section
variable {w : World} {L : List HP} {db vb mb o N c : Nat}
set_option maxRecDepth 100000 in
theorem newdev_ok {base n : Nat} (hp : pow2 n = true) (hf : base + qs n ≤ N) (hN : N ≤ 1000000) (hc : N ≤ c) (h : SatL w L) :
    Calls Try.prog 11 #[.slice (some ⟨mb, o, none⟩) N c, .int .i64 base, .int .i64 n] w (Ret fun r w' => ∃ vb, r = .tuple #[.pointer (some ⟨vb, 0, none⟩), .int .i64 0] ∧ SatL w' (DevR vb mb o ⟨base, n, 0, 0⟩ :: L)) := by
  have ha := at_yes (mb := mb) (o := o) hp hf hN hc w
  unfold ringV at ha
  unfold DevR ringV
  generalize qs n = z at *
  clear hp hf
  go_enter Try.func11, Try.ntmps11
  go_wp2_with (first | (go_at_call 24; (with_reducible refine ha.mono ?_); rintro e w2 ⟨v, rfl, rfl, hk⟩; have h2 := (hk _ h).alloc (.cells #[.slice (some ⟨mb, o + base, none⟩) z z, .int .i64 n, .int .i64 0, .int .i64 0] 63); have d0 := SatL.cell h2 (i := 0) rfl; have d1 := SatL.cell h2 (i := 1) rfl; have d2 := SatL.cell h2 (i := 2) rfl; have d3 := SatL.cell h2 (i := 3) rfl; have h3 := h2.allocN (n := w2.heap.size + 1) (.cells #[.slice (some ⟨mb, o + base, none⟩) z z, .int .i64 n, .int .i64 0, .int .i64 0] 71) (by simp)))
  go_ret2
  exact Ret.mk ⟨_, rfl, SatL.tail h3.swap⟩
set_option maxRecDepth 100000 in
theorem newdev_no {base n : Int} (hr : -9223372036854775808 ≤ base ∧ base ≤ 9223372036854775807) (hf : ¬ atFits N base n) (hN : N ≤ 1000000) (h : SatL w L) :
    Calls Try.prog 11 #[.slice (some ⟨mb, o, none⟩) N c, .int .i64 base, .int .i64 n] w (Ret fun r w' => r = .tuple #[.pointer none, .int .i64 1] ∧ SatL w' L) := by
  have ha := at_no (mb := mb) (o := o) (c := c) hr hf hN w
  clear hf
  go_enter Try.func11, Try.ntmps11
  go_wp2_with (first | (go_at_call 24; (with_reducible refine ha.mono ?_); rintro e w2 ⟨v, rfl, rfl, hk⟩))
  go_ret2
  exact Ret.mk ⟨rfl, ((hk _ h).alloc _).tail⟩
set_option maxRecDepth 100000 in
theorem newdrv_no {base n : Int} (hr : -9223372036854775808 ≤ base ∧ base ≤ 9223372036854775807) (hf : ¬ atFits N base n) (hN : N ≤ 1000000) (h : SatL w L) :
    Calls Try.prog 10 #[.slice (some ⟨mb, o, none⟩) N c, .int .i64 base, .int .i64 n] w (Ret fun r w' => r = .tuple #[.pointer none, .int .i64 1] ∧ SatL w' L) := by
  have ha := at_no (mb := mb) (o := o) (c := c) hr hf hN w
  clear hf
  go_enter Try.func10, Try.ntmps10
  go_wp2_with (first | (go_at_call 24; (with_reducible refine ha.mono ?_); rintro e w2 ⟨v, rfl, rfl, hk⟩))
  go_ret2
  exact Ret.mk ⟨rfl, ((hk _ h).alloc _).tail⟩
set_option maxRecDepth 100000 in
theorem newdrv_ok {base n : Nat} {m : List UInt8} (hp : pow2 n = true) (hf : base + qs n ≤ m.length) (hN : m.length ≤ 1000000) (h : SatL w (SlB 5 (.slice (some ⟨mb, o, none⟩) N c) m :: L)) :
    Calls Try.prog 10 #[.slice (some ⟨mb, o, none⟩) N c, .int .i64 base, .int .i64 n] w (Ret fun r w' => ∃ db, r = .tuple #[.pointer (some ⟨db, 0, none⟩), .int .i64 0] ∧ SatL w' (DrvR db mb o (Dr.new base n) :: SlB 5 (.slice (some ⟨mb, o, none⟩) N c) (lzero m base (qs n)) :: L)) := by
  obtain ⟨hNm, hc, _⟩ := Sl.lenEq h
  rw [bvs_len] at hNm
  have ha := at_yes (mb := mb) (o := o) (N := N) (base := base) hp (by omega) (by omega) hc w
  have hn := pow2_le hp
  have hfin := hid (fun (w' : World) (db bb mp : Nat) (X : List HP) (h : SatL w' (cl db 69 (ringV mb o ⟨base, n, 0, 0⟩ ++ [Value.slice (some ⟨bb, 0, none⟩) n n, Value.map (some mp)]).toArray :: Sl 4 (.slice (some ⟨bb, 0, none⟩) n n) (List.replicate n (.bool false)) :: MapF NatsL mp (fun _ => none) :: X)) => (sat_DrvR.2 ⟨_, _, by rw [Dr.new, List.map_replicate]; exact h⟩ : SatL w' (DrvR db mb o (Dr.new base n) :: X)))
  have hlz := hid (bvs_lzero m base (qs n))
  unfold ringV at ha hfin
  have hz1 : base + qs n ≤ N := by omega
  generalize lzero m base (qs n) = m' at *
  simp only at hfin
  generalize qs n = z at *
  have hzb : z ≤ 1000000 := by omega
  have hnz : (n : Int) ≤ 256 := by omega
  clear hp hf hNm
  go_enter Try.func10, Try.ntmps10
  go_wp2_with (first
    | (go_at_call 24; (with_reducible refine ha.mono ?_); rintro e w2 ⟨v, rfl, rfl, hk⟩; have h2 := (hk _ h).alloc (.cells #[.slice (some ⟨mb, o + base, none⟩) z z, .int .i64 n, .int .i64 0, .int .i64 0] 63); have d0 := SatL.cell h2 (i := 0) rfl; have h3 := SatL.swap h2)
    | (refine wpList_clear_mid rfl (.tmp 21) rfl elem_byte h3 hz1 rfl ?_; intro w4 h4; rw [hlz.out] at h4))
  have hmm := @run_makeMap Try.prog
  have h5 := sat_drew.2 h4
  have hcl := hid (fun (w' : World) (X : List HP) (h : SatL w' (cl w2.heap.size 63 #[.slice (some ⟨mb, o + base, none⟩) z z, .int .i64 n, .int .i64 0, .int .i64 0] :: X)) => (⟨h.cell (i := 0) rfl, h.cell (i := 1) rfl, h.cell (i := 2) rfl, h.cell (i := 3) rfl⟩ : w'.cell? ⟨w2.heap.size, 0, none⟩ = some (.slice (some ⟨mb, o + base, none⟩) z z) ∧ w'.cell? ⟨w2.heap.size, 1, none⟩ = some (.int .i64 n) ∧ w'.cell? ⟨w2.heap.size, 2, none⟩ = some (.int .i64 0) ∧ w'.cell? ⟨w2.heap.size, 3, none⟩ = some (.int .i64 0)))
  have S5 := hcl.out _ _ (SatL.swap h5)
  refine GoE.start (fun w' => w'.cell? ⟨w2.heap.size, 0, none⟩ = some (.slice (some ⟨mb, o + base, none⟩) z z) ∧ w'.cell? ⟨w2.heap.size, 1, none⟩ = some (.int .i64 n) ∧ w'.cell? ⟨w2.heap.size, 2, none⟩ = some (.int .i64 0) ∧ w'.cell? ⟨w2.heap.size, 3, none⟩ = some (.int .i64 0)) 7 8 rfl (by kernel_rfl) ?_
  refine GoE.take (i := 0) (v := ?_) rfl (by decide) (by kernel_rfl) (by kernel_rfl) (by kernel_rfl) (by kernel_rfl) (fun _ _ _ h => h) (by rfl) ?_ (by assumption) ?_
  rotate_left
  · intro w hSw; (try dsimp only at hSw); go_simp; try (with_reducible rfl)
  try simp only [Act.put, List.setIfInBounds_toArray, List.set_cons_zero, List.set_cons_succ]
  refine GoE.take (i := 1) (v := ?_) rfl (by decide) (by kernel_rfl) (by kernel_rfl) (by kernel_rfl) (by kernel_rfl) (fun _ _ _ h => h) (by rfl) ?_ (by assumption) ?_
  rotate_left
  · intro w hSw; (try dsimp only at hSw); go_simp; try (with_reducible rfl)
  try simp only [Act.put, List.setIfInBounds_toArray, List.set_cons_zero, List.set_cons_succ]
  refine GoE.two (i := 2) (j := 3) rfl rfl (by kernel_rfl) (fun K hK => ?_) (fun K hK => ?_)
  · refine step_make_sl (by kernel_rfl) (.tmp 23) (.tmp 23) rfl elem_bool n rfl rfl h5 (by omega) (by omega) ?_
    intro w6 bb h6
    have S6 := hcl.out _ _ (h6.pull 2 : SatL _ (cl _ _ _ :: _))
    refine hK.out _ _ (fun _ => S6) ?_
    clear hK K
    try simp only [Act.put, List.setIfInBounds_toArray, List.set_cons_zero, List.set_cons_succ]
    refine GoE.one (i := 3) rfl (by kernel_rfl) (fun K hK => ?_)
    go_simp
    have h7 := h6.alloc (.map #[] 0)
    have S7 := hcl.out _ _ (h7.pull 3 : SatL _ (cl _ _ _ :: _))
    refine hK.out _ _ (fun _ => S7) ?_
    clear hK K
    try simp only [Act.put, List.setIfInBounds_toArray, List.set_cons_zero, List.set_cons_succ]
    refine GoE.take (i := 4) (v := ?_) rfl (by decide) (by kernel_rfl) (by kernel_rfl) (by kernel_rfl) (by kernel_rfl) (fun _ _ _ h => h) (by rfl) ?_ (by assumption) ?_
    rotate_left
    · intro w hSw; (try dsimp only at hSw); go_simp; try (with_reducible rfl)
    try simp only [Act.put, List.setIfInBounds_toArray, List.set_cons_zero, List.set_cons_succ]
    refine GoE.one (i := 5) rfl (by kernel_rfl) (fun K hK => ?_)
    go_simp
    have h8 := h7.allocN (n := w6.heap.size + 1) (.cells #[.slice (some ⟨mb, o + base, none⟩) z z, .int .i64 n, .int .i64 0, .int .i64 0, .slice (some ⟨bb, 0, none⟩) n n, .map (some w6.heap.size)] 69) (by simp)
    have S8 := hcl.out _ _ (h8.pull 4 : SatL _ (cl _ _ _ :: _))
    refine hK.out _ _ (fun _ => S8) ?_
    clear hK K
    try simp only [Act.put, List.setIfInBounds_toArray, List.set_cons_zero, List.set_cons_succ]
    refine GoE.take (i := 6) (v := ?_) rfl (by decide) (by kernel_rfl) (by kernel_rfl) (by kernel_rfl) (by kernel_rfl) (fun _ _ _ h => h) (by rfl) ?_ (by assumption) ?_
    rotate_left
    · intro w hSw; (try dsimp only at hSw); go_simp; try (with_reducible rfl)
    try simp only [Act.put, List.setIfInBounds_toArray, List.set_cons_zero, List.set_cons_succ]
    refine GoE.one (i := 7) rfl (by kernel_rfl) (fun K hK => ?_)
    go_simp
    refine hK.out _ _ (fun h => absurd rfl h) ?_
    clear hK K
    try simp only [Act.put, List.setIfInBounds_toArray, List.set_cons_zero, List.set_cons_succ]
    refine GoE.done (by kernel_rfl) ?_
    go_wp2
    go_ret2
    have h9 := MapF_nil (F := NatsL) (h8.pull 1)
    exact Ret.mk ⟨_, rfl, (hfin.out _ _ _ _ _ (h9.bring [1, 2, 0, 3])).bring [0, 1] |> fun h => SatL.tail (h.bring [2, 0, 1])⟩
  · go_simp
    have h6 := h5.alloc (.map #[] 0)
    have S6 := hcl.out _ _ (h6.pull 2 : SatL _ (cl _ _ _ :: _))
    refine hK.out _ _ (fun _ => S6) ?_
    clear hK K
    try simp only [Act.put, List.setIfInBounds_toArray, List.set_cons_zero, List.set_cons_succ]
    refine GoE.one (i := 2) rfl (by kernel_rfl) (fun K hK => ?_)
    refine step_make_sl (by kernel_rfl) (.tmp 23) (.tmp 23) rfl elem_bool n rfl rfl h6 (by omega) (by omega) ?_
    intro w7 bb h7
    have S7 := hcl.out _ _ (h7.pull 3 : SatL _ (cl _ _ _ :: _))
    refine hK.out _ _ (fun _ => S7) ?_
    clear hK K
    try simp only [Act.put, List.setIfInBounds_toArray, List.set_cons_zero, List.set_cons_succ]
    refine GoE.take (i := 4) (v := ?_) rfl (by decide) (by kernel_rfl) (by kernel_rfl) (by kernel_rfl) (by kernel_rfl) (fun _ _ _ h => h) (by rfl) ?_ (by assumption) ?_
    rotate_left
    · intro w hSw; (try dsimp only at hSw); go_simp; try (with_reducible rfl)
    try simp only [Act.put, List.setIfInBounds_toArray, List.set_cons_zero, List.set_cons_succ]
    refine GoE.one (i := 5) rfl (by kernel_rfl) (fun K hK => ?_)
    go_simp
    have h8 := h7.alloc (.cells #[.slice (some ⟨mb, o + base, none⟩) z z, .int .i64 n, .int .i64 0, .int .i64 0, .slice (some ⟨bb, 0, none⟩) n n, .map (some w4.heap.size)] 69)
    have S8 := hcl.out _ _ (h8.pull 4 : SatL _ (cl _ _ _ :: _))
    refine hK.out _ _ (fun _ => S8) ?_
    clear hK K
    try simp only [Act.put, List.setIfInBounds_toArray, List.set_cons_zero, List.set_cons_succ]
    refine GoE.take (i := 6) (v := ?_) rfl (by decide) (by kernel_rfl) (by kernel_rfl) (by kernel_rfl) (by kernel_rfl) (fun _ _ _ h => h) (by rfl) ?_ (by assumption) ?_
    rotate_left
    · intro w hSw; (try dsimp only at hSw); go_simp; try (with_reducible rfl)
    try simp only [Act.put, List.setIfInBounds_toArray, List.set_cons_zero, List.set_cons_succ]
    refine GoE.one (i := 7) rfl (by kernel_rfl) (fun K hK => ?_)
    go_simp
    refine hK.out _ _ (fun h => absurd rfl h) ?_
    clear hK K
    try simp only [Act.put, List.setIfInBounds_toArray, List.set_cons_zero, List.set_cons_succ]
    refine GoE.done (by kernel_rfl) ?_
    go_wp2
    go_ret2
    have h9 := MapF_nil (F := NatsL) (h8.pull 2)
    exact Ret.mk ⟨_, rfl, (hfin.out _ _ _ _ _ (h9.bring [1, 2, 0, 3])).bring [0, 1] |> fun h => SatL.tail (h.bring [2, 0, 1])⟩
end
end Go.Proofs.Ytnniipeoahpkcaa
