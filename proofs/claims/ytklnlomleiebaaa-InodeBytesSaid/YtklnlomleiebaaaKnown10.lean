/- known of the laws of chapter 10. No condition. -/
import Derived.Test.YtklnlomleiebaaaInoY
namespace Go.Proofs.Ytklnlomleiebaaa
set_option linter.unusedVariables false
set_option linter.unusedSimpArgs false
open Go.RowKit
theorem g200 : planGood (200 : Nat) (8 : Nat) := by unfold planGood; omega
theorem e200 : planErr (200 : Nat) (8 : Nat) = 0 := by decide
theorem t200 : tableN 200 = 70 := by decide
theorem d200 : dataN 200 8 = 72 := by decide
theorem mkVs_full (b i : Nat) : (mkVs b i).Full b i := ⟨fun j hj => by simp [mkVs, usedP, hj], fun j hj => by simp [mkVs, usedP, hj]⟩
theorem fillS_hole0 {n u k : Nat} {s : Vs} (hu : lowF s.U n = some u) : fillS n 0 s 0 k = some (u, u, (s.take u).put u zero512) := by simp [fillS, dipS, hu]
theorem fillS_hole1 {n u u2 k : Nat} {s : Vs} (hu : lowF s.U n = some u) (hu2 : lowF (s.take u).U n = some u2) (h0 : u2 ≠ 0) :
    fillS n 1 s 0 k = some (u, u2, ((((s.take u).put u zero512).take u2).put u2 zero512).put u (setP zero512 k u2)) := by
  have hu3 : lowF ((s.take u).put u zero512).U n = some u2 := hu2
  rw [fillS, dipS, if_pos rfl, hu]
  simp only [Option.map_some, Option.bind_some, Vs.put_D, ptrN_zero, Nat.pow_zero, Nat.div_one]
  rw [fillS_hole0 hu3]
  simp [h0]
theorem writeS_of {n m : Nat} {s s1 : Vs} {P : List Nat} {z a wi wd wk o p t : Nat} {dd : List UInt8} (hd : dd ≠ []) (hw : wayN (a / 512) = (wi, wd, wk)) (ho : a % 512 = o) (h1 : fillS n wd s (P.getD wi 0) wk = some (p, t, s1)) :
    writeS n (m + 1) s P z a dd = writeS n m (s1.put t (patch (s1.D t) o (dd.take (512 - o)))) (P.set wi p) (max z (a + min dd.length (512 - o))) (a + min dd.length (512 - o)) (dd.drop (512 - o)) := by
  rw [writeS, if_neg hd, hw, ho]
  show (fillS n wd s (P.getD wi 0) wk).bind _ = _
  rw [h1]; rfl
theorem OkW_of {n tb b m : Nat} {s s1 : Vs} {P : List Nat} {a wi wd wk o p t : Nat} {dd : List UInt8} (hw : wayN (a / 512) = (wi, wd, wk)) (ho : a % 512 = o) (h1 : fillS n wd s (P.getD wi 0) wk = some (p, t, s1)) (hok : OkP s tb b wd (P.getD wi 0) wk)
    (h2 : OkW n tb b m (s1.put t (patch (s1.D t) o (dd.take (512 - o)))) (P.set wi p) (a + min dd.length (512 - o)) (dd.drop (512 - o))) : OkW n tb b (m + 1) s P a dd := by
  refine .inr ?_
  rw [hw, ho]
  refine ⟨hok, fun p' t' s' h => ?_⟩
  have e := h.symm.trans h1
  simp only [Option.some.injEq, Prod.mk.injEq] at e
  obtain ⟨e1, e2, e3⟩ := e
  subst e1 e2 e3
  exact h2
theorem OkW_nil (n tb b m : Nat) (s : Vs) (P : List Nat) (a : Nat) : OkW n tb b m s P a [] := by
  cases m with
  | zero => trivial
  | succ m => exact .inl rfl
theorem lowF_take {U : Nat → Bool} {n u : Nat} (hu : u < n) (h : U u = false) (hm : ∀ j, j < u → U j = true) : lowF U n = some u := lowF_of hu h hm
theorem known_wA : ∃ s', writeS (bmN 200) 513 (mkVs 200 8) ino0.ptr 0 0 (List.replicate 513 0) = some ([73, 74, 0, 0, 0, 0, 0, 0, 0], 513, s') ∧ OkW (bmN 200) (tableN 200) 200 513 (mkVs 200 8) ino0.ptr 0 (List.replicate 513 0) ∧
    s'.Full 200 8 ∧ (∀ j, j < 75 → s'.U j = true) ∧ s'.U 75 = false ∧ s'.U 76 = false := by
  have hl : (List.replicate 513 (0 : UInt8)).length = 513 := List.length_replicate ..
  have hF := mkVs_full 200 8
  have hU : ∀ j, (mkVs 200 8).U j = (decide (j ≤ 72) || decide (200 ≤ j)) := fun j => by show usedP 200 (dataN 200 8) j = _; rw [d200]; rfl
  generalize List.replicate 513 (0 : UInt8) = dd at *
  generalize mkVs 200 8 = s0 at *
  have hd : dd ≠ [] := fun e => by rw [e] at hl; cases hl
  have hd2 : dd.drop 512 ≠ [] := fun e => by have := congrArg List.length e; rw [List.length_drop, hl] at this; cases this
  have hd3 : (dd.drop 512).drop 512 = [] := List.drop_of_length_le (by rw [List.length_drop, hl]; omega)
  have u1 : lowF s0.U (bmN 200) = some 73 := lowF_of (by decide) (by rw [hU]; rfl) (fun j hj => by rw [hU]; simp; omega)
  have f1 : fillS (bmN 200) 0 s0 0 0 = some (73, 73, (s0.take 73).put 73 zero512) := fillS_hole0 u1
  obtain ⟨s1, hs1⟩ : ∃ s1, s1 = ((s0.take 73).put 73 zero512).put 73 (patch (((s0.take 73).put 73 zero512).D 73) 0 (dd.take 512)) := ⟨_, rfl⟩
  have hU1 : ∀ j, s1.U j = (s0.U j || j == 73) := fun j => by rw [hs1]; rfl
  have u2 : lowF s1.U (bmN 200) = some 74 := lowF_of (by decide) (by rw [hU1, hU]; rfl) (fun j hj => by rw [hU1, hU]; simp; omega)
  have f2 : fillS (bmN 200) 0 s1 0 0 = some (74, 74, (s1.take 74).put 74 zero512) := fillS_hole0 u2
  obtain ⟨s2, hs2⟩ : ∃ s2, s2 = ((s1.take 74).put 74 zero512).put 74 (patch (((s1.take 74).put 74 zero512).D 74) 0 ((dd.drop 512).take 512)) := ⟨_, rfl⟩
  have hU2 : ∀ j, s2.U j = (s1.U j || j == 74) := fun j => by rw [hs2]; rfl
  refine ⟨s2, ?_, ?_, ⟨fun j hj => ?_, fun j hj => ?_⟩, fun j hj => ?_, ?_, ?_⟩
  · rw [writeS_of (m := 512) (a := 0) (P := ino0.ptr) (z := 0) hd (wi := 0) (wd := 0) (wk := 0) (o := 0) (by simp [wayN]) (by omega) f1, Nat.sub_zero, ← hs1, hl]
    show writeS (bmN 200) 512 s1 [73, 0, 0, 0, 0, 0, 0, 0, 0] 512 512 (dd.drop 512) = _
    rw [writeS_of (m := 511) (a := 512) (P := [73, 0, 0, 0, 0, 0, 0, 0, 0]) (z := 512) hd2 (wi := 1) (wd := 0) (wk := 0) (o := 0) (by simp [wayN]) (by omega) f2, Nat.sub_zero, ← hs2, hd3, writeS_nil, List.length_drop, hl]
    rfl
  · refine OkW_of (m := 512) (a := 0) (wi := 0) (wd := 0) (wk := 0) (o := 0) (by simp [wayN]) (by omega) f1 (.inl rfl) ?_
    rw [Nat.sub_zero, ← hs1, hl]
    show OkW (bmN 200) (tableN 200) 200 512 s1 [73, 0, 0, 0, 0, 0, 0, 0, 0] 512 (dd.drop 512)
    refine OkW_of (m := 511) (a := 512) (wi := 1) (wd := 0) (wk := 0) (o := 0) (by simp [wayN]) (by omega) f2 (.inl rfl) ?_
    rw [Nat.sub_zero, hd3]
    exact OkW_nil ..
  all_goals simp only [hU2, hU1, hU]
  · rw [d200] at hj; simp; omega
  · simp; omega
  · simp; omega
  · rfl
  · rfl
theorem known_wB {s : Vs} (hF : s.Full 200 8) (hU : ∀ j, j < 75 → s.U j = true) (h75 : s.U 75 = false) (h76 : s.U 76 = false) :
    ∃ s', writeS (bmN 200) 1 s ino0.ptr 0 3072 [1] = some ([0, 0, 0, 0, 0, 0, 75, 0, 0], 3073, s') ∧ OkW (bmN 200) (tableN 200) 200 1 s ino0.ptr 3072 [1] := by
  have u1 : lowF s.U (bmN 200) = some 75 := lowF_of (by decide) h75 hU
  have hU1 : ∀ j, (s.take 75).U j = (s.U j || j == 75) := fun j => rfl
  have u2 : lowF (s.take 75).U (bmN 200) = some 76 := lowF_of (by decide) (by rw [hU1, h76]; rfl) (fun j hj => by
    rw [hU1]
    by_cases e : j = 75
    · subst e; simp
    · rw [hU j (by omega)]; rfl)
  have f := fillS_hole1 (k := 0) u1 u2 (by omega)
  have hw := writeS_of (m := 0) (z := 0) (P := ino0.ptr) (a := 3072) (dd := [1]) (by simp) (wi := 6) (wd := 1) (wk := 0) (o := 0) (by simp [wayN]) (by omega) f
  have hk := OkW_of (m := 0) (n := bmN 200) (tb := tableN 200) (b := 200) (P := ino0.ptr) (a := 3072) (dd := [1]) (wi := 6) (wd := 1) (wk := 0) (o := 0) (by simp [wayN]) (by omega) f (.inl rfl) (OkW_nil ..)
  exact ⟨_, hw, hk⟩
section
variable {w : World} {L : List HP}
theorem ino0_val : inoV ino0 = .agg #[.int .i64 0, .int .i64 0, .int .i64 0, .int .u32 0, .int .u32 0, .int .u32 0, .int .u64 0, .int .u64 0, .int .u32 0, .int .u32 0, .int .u32 0, .int .u32 0, .int .u32 0, .int .u32 0, .int .i64 0, .int .i64 0, .int .i64 0, .int .i64 0, .int .i64 0, .int .i64 0, .int .i64 0, .int .i64 0, .int .i64 0] := rfl
theorem inoA_cell {b : Nat} {x : Ino} (h : SatL w (cl b 31 (inoA x) :: L)) (hx : x.Ok) {j : Nat} (hj : j < 9) : w.cell? ⟨b, 14 + j, none⟩ = some (.int .i64 ((x.ptr.getD j 0 : Nat) : Int)) := SatL.cell h (inoA_ptr hx hj)
theorem gives_one (b T : Nat) (L : List HP) : Gives (pt b (.cells #[.int .u8 1] T) :: L) (RdB (.slice (some ⟨b, 0, none⟩) 1 1) [1]) := fun w' h' => RdB.ofPt h' rfl rfl (by omega) (by omega)
set_option maxRecDepth 100000 in
set_option maxHeartbeats 4000000 in
theorem known_ok (h : SatL w L) : Calls Try.prog 5 #[] w (Ret fun v w' => v = .bool true ∧ SatL w' L) := by
  have hfresh := fil_fresh g200 e200 h
  obtain ⟨sA, wA, oA, FA, UA, U5, U6⟩ := known_wA
  obtain ⟨sB, wB, oB⟩ := known_wB FA UA U5 U6
  have hl : (List.replicate 513 (0 : UInt8)).length = 513 := List.length_replicate ..
  have hz : bvs (List.replicate 513 0) = List.replicate 513 (.int .u8 0) := bvs_zeros 513
  have hw1 := fun (w : World) (vb : Nat) (dv : Value) (h : SatL w (FilR vb 200 8 (mkVs 200 8) :: SlB 5 dv (List.replicate 513 0) :: L)) => write_ok (x := ino0) (A := 0) (dd := List.replicate 513 0) ino0_ok (by decide) (mkVs_full 200 8) (by rw [hl]; omega) (by rw [hl]; omega) (by rw [hl]; exact oA) (by rw [hl]; exact wA) (fun w' h' => SlB.rd h') h
  have hw2 := fun (w : World) (vb : Nat) (L : List HP) (dv : Value) (g : Gives L (RdB dv [1])) (h : SatL w (FilR vb 200 8 sA :: L)) => write_ok (x := ino0) (A := 3072) (dd := [1]) ino0_ok (by decide) FA (by decide) (by decide) oB wB g h
  rw [ino0_val] at hw1 hw2
  rw [show ((0 : Nat) : Int) = 0 from rfl] at hw1
  rw [show ((3072 : Nat) : Int) = 3072 from rfl] at hw2
  rw [show ((200 : Nat) : Int) = 200 from rfl, show ((8 : Nat) : Int) = 8 from rfl] at hfresh
  obtain ⟨zs, hzs⟩ : ∃ zs, zs = List.replicate 513 (0 : UInt8) := ⟨_, rfl⟩
  rw [← hzs] at hw1 hz
  have Hw1 := hid hw1
  have Hw2 := hid hw2
  have Hz := hid hz
  clear hw1 hw2 wA oA FA UA U5 U6 wB oB hl hz hzs
  have tk : True := trivial
  obtain ⟨Y, hY⟩ : ∃ Y : Ino, Y = { ino0 with ptr := [0, 0, 0, 0, 0, 0, 75, 0, 0], size := 3073 } := ⟨_, rfl⟩
  obtain ⟨X, hX⟩ : ∃ X : Ino, X = { ino0 with ptr := [73, 74, 0, 0, 0, 0, 0, 0, 0], size := 513 } := ⟨_, rfl⟩
  go_enter Try.func5, Try.ntmps5
  go_wp2_with (first
    | (go_at_call 8; (with_reducible refine hfresh.mono ?_); rintro e w1 ⟨v, rfl, vb, rfl, h1⟩)
    | (refine wpList_make_sl rfl (.const (.int .i64 513)) (.const (.int .i64 513)) rfl elem_byte 513 rfl rfl h1 (by omega) (by omega) ?_; intro w2 h2; rw [← Hz.out] at h2; have hcw := Hw1.out _ _ _ h2.swap)
    | (have _t := tk; go_at_call 12; (with_reducible refine hcw.mono ?_); rintro e w3 ⟨v, rfl, rfl, h3⟩; clear tk; have tk2 : True := trivial)
    | (have _t := tk2; refine wpList_storeRow_cl rfl 31 (.tmp 2) (.tmp 14) rfl rfl rfl (h3.alloc (.cells (inoA ino0) 31)) (ino_size (x := { ino0 with ptr := [73, 74, 0, 0, 0, 0, 0, 0, 0], size := 513 }) ⟨rfl, rfl⟩) (by rw [inoA_size ino0_ok, inoA_size ⟨rfl, rfl⟩]) (inoA_one _) ?_; intro w4 h4; clear tk2; have tk3 : True := trivial)
    | (have _t := tk3; go_at_call 12; have h5 := h4.alloc (.cells #[.int .u8 1] 5); (with_reducible refine (Hw2.out _ _ _ _ (gives_one _ _ _) (h5.bring [2])).mono ?_); rintro e w5 ⟨v, rfl, rfl, h6⟩; clear tk3; have tk4 : True := trivial)
    | (have _t := tk4; refine wpList_storeRow_cl rfl 31 (.tmp 4) (.tmp 21) rfl rfl rfl (h6.alloc (.cells (inoA ino0) 31)) (ino_size (x := { ino0 with ptr := [0, 0, 0, 0, 0, 0, 75, 0, 0], size := 3073 }) ⟨rfl, rfl⟩) (by rw [inoA_size ino0_ok, inoA_size ⟨rfl, rfl⟩]) (inoA_one _) ?_; intro w7 h7; clear tk4; have c1 : w7.cell? ⟨w3.heap.size, 6, none⟩ = some (.int .u64 513) := SatL.cell (h7.pull 3) (inoA_at6 _); have c2 : w7.cell? ⟨w3.heap.size, 14, none⟩ = some (.int .i64 73) := inoA_cell (h7.pull 3) ⟨rfl, rfl⟩ (j := 0) (by omega); have c3 : w7.cell? ⟨w3.heap.size, 15, none⟩ = some (.int .i64 74) := inoA_cell (h7.pull 3) ⟨rfl, rfl⟩ (j := 1) (by omega); have c4 : w7.cell? ⟨w5.heap.size, 20, none⟩ = some (.int .i64 75) := inoA_cell h7 ⟨rfl, rfl⟩ (j := 6) (by omega); have c5 : w7.cell? ⟨w5.heap.size, 14, none⟩ = some (.int .i64 0) := inoA_cell h7 ⟨rfl, rfl⟩ (j := 0) (by omega)))
  go_ret
  exact Ret.mk ⟨rfl, h7.tail.tail.tail.tail.tail⟩
end
end Go.Proofs.Ytklnlomleiebaaa
