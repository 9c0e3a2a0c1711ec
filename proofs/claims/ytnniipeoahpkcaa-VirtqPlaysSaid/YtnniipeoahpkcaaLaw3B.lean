/- begun of chapter 3's statements: both sides over memories of their own. No condition. -/
import Derived.Test.YtnniipeoahpkcaaR3D
import Derived.Test.YtnniipeoahpkcaaSameI
import Derived.Test.YtnniipeoahpkcaaLaw3A
import Derived.Test.YtnniipeoahpkcaaStore
namespace Go.Proofs.Ytnniipeoahpkcaa
set_option linter.unusedVariables false
set_option linter.unusedSimpArgs false
open Go.RowKit
abbrev smV (mb z : Nat) : Value := .slice (some ⟨mb, 0, none⟩) z z
def patz (j n : Nat) : List UInt8 := (List.range j).map byteOf ++ List.replicate (n - j) 0
theorem patz_len {j n : Nat} (h : j ≤ n) : (patz j n).length = n := by unfold patz; rw [List.length_append, List.length_map, List.length_range, List.length_replicate]; omega
theorem patz_step {j n : Nat} (h : j < n) : (bvs (patz j n)).set j (.int .u8 ((j : Int) % 256)) = bvs (patz (j + 1) n) := by
  have e : (patz j n).set j (byteOf j) = patz (j + 1) n := by
    unfold patz
    obtain ⟨k, hk⟩ : ∃ k, n - j = k + 1 := ⟨n - j - 1, by omega⟩
    rw [List.set_append_right _ _ (by rw [List.length_map, List.length_range]; exact Nat.le_refl _), List.length_map, List.length_range, Nat.sub_self, hk, show n - (j + 1) = k by omega, List.replicate_succ, List.set_cons_zero, List.range_succ, List.map_append, List.append_assoc]
    rfl
  rw [← e]
  unfold bvs
  rw [List.map_set]
  congr 1
  rw [bv_byteOf, show ((j % 256 : Nat) : Int) = (j : Int) % 256 by omega]
def lowZ (s : Int) : Nat := (if s < 0 then 0 else if 12000 < s then 12000 else s).toNat
theorem lowZ_le (s : Int) : lowZ s ≤ 12000 := by unfold lowZ; split; omega; split <;> omega
def bothV (db vb xb yb : Nat) (mv nv tv : Value) : List Value := [.pointer (some ⟨db, 0, none⟩), .pointer (some ⟨vb, 0, none⟩), .pointer (some ⟨xb, 0, none⟩), .pointer (some ⟨yb, 0, none⟩), mv, nv, tv]
def BothR (bb Z : Nat) (d : Dr) (r : Ring) (m : List UInt8) (T : List Nat) : HP := ex fun db => ex fun vb => ex fun xb => ex fun yb => ex fun mb => ex fun nb => ex fun tv => sep [cl bb 57 (bothV db vb xb yb (smV mb Z) (smV nb Z) tv).toArray, DrvR db mb 0 d, DevR vb mb 0 r, SlB 5 (smV mb Z) m, XDrvR xb nb 0 Z Z d, XDevR yb nb 0 Z Z r, SlB 5 (smV nb Z) m, NatsL tv T]
structure PI (Z : Nat) (d : Dr) (r : Ring) (m : List UInt8) : Prop where
  dk : DrOk d m.length
  rk : RgOk r m.length
  ow : Own d
  ml : m.length = Z
  zl : Z ≤ 12000
theorem qsize_qs {n : Nat} (hp : pow2 n = true) : qsize (n : Int) = qs n := by
  have := pow2_le hp
  unfold qsize qs; rw [if_pos ⟨by omega, hp⟩]; rfl
theorem at_shape {N : Nat} {base n : Int} (h : atFits N base n) : (∃ n0 : Nat, n = n0 ∧ pow2 n0 = true) ∧ 0 ≤ base ∧ base ≤ (N : Int) - qsize n := by
  obtain ⟨h1, h2, h3⟩ := h
  refine ⟨?_, h2, h3⟩
  unfold qsize at h1
  split at h1
  · rename_i hq
    exact ⟨n.toNat, by omega, hq.2⟩
  · exact absurd rfl h1
section
variable {w : World} {L : List HP} {bb Z : Nat}
theorem sat_BothR {d : Dr} {r : Ring} {m : List UInt8} {T : List Nat} : SatL w (BothR bb Z d r m T :: L) ↔ ∃ db vb xb yb mb nb tv, SatL w (cl bb 57 (bothV db vb xb yb (smV mb Z) (smV nb Z) tv).toArray :: DrvR db mb 0 d :: DevR vb mb 0 r :: SlB 5 (smV mb Z) m :: XDrvR xb nb 0 Z Z d :: XDevR yb nb 0 Z Z r :: SlB 5 (smV nb Z) m :: NatsL tv T :: L) := by
  simp only [BothR, sat_ex, sat_sep, List.cons_append, List.nil_append]
theorem both_cells {db vb xb yb : Nat} {mv nv tv : Value} (h : SatL w (cl bb 57 (bothV db vb xb yb mv nv tv).toArray :: L)) : w.cell? ⟨bb, 0, none⟩ = some (.pointer (some ⟨db, 0, none⟩)) ∧ w.cell? ⟨bb, 1, none⟩ = some (.pointer (some ⟨vb, 0, none⟩)) ∧ w.cell? ⟨bb, 2, none⟩ = some (.pointer (some ⟨xb, 0, none⟩)) ∧ w.cell? ⟨bb, 3, none⟩ = some (.pointer (some ⟨yb, 0, none⟩)) ∧ w.cell? ⟨bb, 4, none⟩ = some mv ∧ w.cell? ⟨bb, 5, none⟩ = some nv ∧ w.cell? ⟨bb, 6, none⟩ = some tv :=
  ⟨h.cell (i := 0) rfl, h.cell (i := 1) rfl, h.cell (i := 2) rfl, h.cell (i := 3) rfl, h.cell (i := 4) rfl, h.cell (i := 5) rfl, h.cell (i := 6) rfl⟩
def both0 (mv nv : Value) : Array Value := #[.pointer none, .pointer none, .pointer none, .pointer none, mv, nv, .slice none 0 0]
theorem both0_cells {mv nv : Value} (h : SatL w (cl bb 57 (both0 mv nv) :: L)) : w.cell? ⟨bb, 4, none⟩ = some mv ∧ w.cell? ⟨bb, 5, none⟩ = some nv := ⟨h.cell (i := 4) rfl, h.cell (i := 5) rfl⟩
set_option maxRecDepth 100000 in
set_option maxHeartbeats 4000000 in
theorem begun_ok (s base n : Int) (hb : -9223372036854775808 ≤ base ∧ base ≤ 9223372036854775807) (hw : SatL w L) :
    Calls Try.prog 18 #[.int .i64 s, .int .i64 base, .int .i64 n] w (Ret fun v w' => (v = .tuple #[.pointer none, .bool true] ∧ SatL w' L) ∨ ∃ (bb : Nat) (d : Dr) (r : Ring) (m : List UInt8), v = .tuple #[.pointer (some ⟨bb, 0, none⟩), .bool true] ∧ PI (lowZ s) d r m ∧ SatL w' (BothR bb (lowZ s) d r m [] :: L)) := by
  obtain ⟨s1, hs1⟩ : ∃ s1 : Int, s1 = if s < 0 then 0 else s := ⟨_, rfl⟩
  obtain ⟨Z, hZ⟩ : ∃ Z, Z = lowZ s := ⟨_, rfl⟩
  have hZ2 : (Z : Int) = if 12000 < s1 then 12000 else s1 := by
    rw [hZ, hs1]; unfold lowZ
    by_cases h1 : s < 0
    · rw [if_pos h1, if_pos h1, if_neg (by omega)]; rfl
    · rw [if_neg h1, if_neg h1]
      by_cases h2 : 12000 < s
      · rw [if_pos h2]; rfl
      · rw [if_neg h2]; omega
  have hmx : ∀ w : World, (Builtin.max_ #[3, 3] 3 #[.int .i64 s, .int .i64 0]).run Try.prog w = .ok (.int .i64 s1) w := fun w => by
    rw [hs1]; rfl
  have hmn : ∀ w : World, (Builtin.min_ #[3, 3] 3 #[.int .i64 s1, .int .i64 12000]).run Try.prog w = .ok (.int .i64 (Z : Int)) w := fun w => by
    rw [hZ2]; rfl
  rw [← hZ]
  have hzb : Z ≤ 12000 := by rw [hZ]; exact lowZ_le s
  have hz0 := hid (show bvs (patz 0 Z) = List.replicate Z (.int .u8 0) by unfold patz; rw [List.range_zero, List.map_nil, List.nil_append, Nat.sub_zero]; exact bvs_zeros Z)
  have hst := hid (fun j (h : j < Z) => patz_step h)
  have hpl := hid (fun j (h : j ≤ Z) => patz_len h)
  have Hw := hid hw
  have Hb := hid hb
  have hcl0 := hid (fun (w' : World) (X : List HP) (bb mb nb : Nat) (h : SatL w' (cl bb 57 (both0 (smV mb Z) (smV nb Z)) :: X)) => both0_cells h)
  clear hs1 hZ hZ2 hw hb
  go_enter Try.func18, Try.ntmps18
  go_upto_region 2 with fail
  clear hmx hmn
  have hzz : (Z : Int) ≤ 12000 := by omega
  go_cut [8] from 21 to 26 (fun v wx => ∃ bb mb nb : Nat, v = .pointer (some ⟨bb, 0, none⟩) ∧ SatL wx (cl bb 57 (both0 (smV mb Z) (smV nb Z)) :: SlB 5 (smV mb Z) (patz 0 Z) :: SlB 5 (smV nb Z) (patz 0 Z) :: L))
  case first =>
    have hs0 := sat_drew.2 Hw.out
    have tt : True := trivial
    refine GoE.start (fun _ => True) 6 7 rfl (by kernel_rfl) ?_
    refine GoE.take (i := 0) (v := ?_) rfl (by decide) (by kernel_rfl) (by kernel_rfl) (by kernel_rfl) (by kernel_rfl) (fun _ _ _ h => h) (by rfl) ?_ (by assumption) ?_
    rotate_left
    · intro w hSw; (try dsimp only at hSw); go_simp; try (with_reducible rfl)
    try simp only [Act.put, List.setIfInBounds_toArray, List.set_cons_zero, List.set_cons_succ]
    refine GoE.take (i := 2) (v := ?_) rfl (by decide) (by kernel_rfl) (by kernel_rfl) (by kernel_rfl) (by kernel_rfl) (fun _ _ _ h => h) (by rfl) ?_ (by assumption) ?_
    rotate_left
    · intro w hSw; (try dsimp only at hSw); go_simp; try (with_reducible rfl)
    try simp only [Act.put, List.setIfInBounds_toArray, List.set_cons_zero, List.set_cons_succ]
    refine GoE.two (i := 1) (j := 3) rfl rfl (by kernel_rfl) (fun K hK => ?_) (fun K hK => ?_)
    · refine step_make_sl (by kernel_rfl) (.tmp 21) (.tmp 21) rfl elem_byte Z rfl rfl hs0 (by omega) (by omega) ?_
      intro w1 b1 h1
      refine hK.out _ _ (fun _ => trivial) ?_
      clear hK K
      try simp only [Act.put, List.setIfInBounds_toArray, List.set_cons_zero, List.set_cons_succ]
      refine GoE.one (i := 3) rfl (by kernel_rfl) (fun K hK => ?_)
      refine step_make_sl (by kernel_rfl) (.tmp 23) (.tmp 23) rfl elem_byte Z rfl rfl h1 (by omega) (by omega) ?_
      intro w2 b2 h2
      refine hK.out _ _ (fun _ => trivial) ?_
      clear hK K
      try simp only [Act.put, List.setIfInBounds_toArray, List.set_cons_zero, List.set_cons_succ]
      refine GoE.take (i := 4) (v := ?_) rfl (by decide) (by kernel_rfl) (by kernel_rfl) (by kernel_rfl) (by kernel_rfl) (fun _ _ _ h => h) (by rfl) ?_ (by assumption) ?_
      rotate_left
      · intro w hSw; (try dsimp only at hSw); go_simp; try (with_reducible rfl)
      try simp only [Act.put, List.setIfInBounds_toArray, List.set_cons_zero, List.set_cons_succ]
      refine GoE.one (i := 5) rfl (by kernel_rfl) (fun K hK => ?_)
      go_simp
      refine hK.out _ _ (fun _ => trivial) ?_
      clear hK K
      try simp only [Act.put, List.setIfInBounds_toArray, List.set_cons_zero, List.set_cons_succ]
      refine GoE.one (i := 6) rfl (by kernel_rfl) (fun K hK => ?_)
      go_simp
      refine hK.out _ _ (fun h => absurd rfl h) ?_
      clear hK K
      try simp only [Act.put, List.setIfInBounds_toArray, List.set_cons_zero, List.set_cons_succ]
      refine GoE.done (by kernel_rfl) ?_
      go_wp2_with fail
      go_meet
      have h3 := h2.alloc (.cells (both0 (smV b1 Z) (smV b2 Z)) 57)
      rw [← hz0.out] at h3
      exact ⟨_, b1, b2, rfl, h3.bring [0, 2, 1]⟩
    · refine step_make_sl (by kernel_rfl) (.tmp 23) (.tmp 23) rfl elem_byte Z rfl rfl hs0 (by omega) (by omega) ?_
      intro w1 b1 h1
      refine hK.out _ _ (fun _ => trivial) ?_
      clear hK K
      try simp only [Act.put, List.setIfInBounds_toArray, List.set_cons_zero, List.set_cons_succ]
      refine GoE.one (i := 1) rfl (by kernel_rfl) (fun K hK => ?_)
      refine step_make_sl (by kernel_rfl) (.tmp 21) (.tmp 21) rfl elem_byte Z rfl rfl h1 (by omega) (by omega) ?_
      intro w2 b2 h2
      refine hK.out _ _ (fun _ => trivial) ?_
      clear hK K
      try simp only [Act.put, List.setIfInBounds_toArray, List.set_cons_zero, List.set_cons_succ]
      refine GoE.take (i := 4) (v := ?_) rfl (by decide) (by kernel_rfl) (by kernel_rfl) (by kernel_rfl) (by kernel_rfl) (fun _ _ _ h => h) (by rfl) ?_ (by assumption) ?_
      rotate_left
      · intro w hSw; (try dsimp only at hSw); go_simp; try (with_reducible rfl)
      try simp only [Act.put, List.setIfInBounds_toArray, List.set_cons_zero, List.set_cons_succ]
      refine GoE.one (i := 5) rfl (by kernel_rfl) (fun K hK => ?_)
      go_simp
      refine hK.out _ _ (fun _ => trivial) ?_
      clear hK K
      try simp only [Act.put, List.setIfInBounds_toArray, List.set_cons_zero, List.set_cons_succ]
      refine GoE.one (i := 6) rfl (by kernel_rfl) (fun K hK => ?_)
      go_simp
      refine hK.out _ _ (fun h => absurd rfl h) ?_
      clear hK K
      try simp only [Act.put, List.setIfInBounds_toArray, List.set_cons_zero, List.set_cons_succ]
      refine GoE.done (by kernel_rfl) ?_
      go_wp2_with fail
      go_meet
      have h3 := h2.alloc (.cells (both0 (smV b2 Z) (smV b1 Z)) 57)
      rw [← hz0.out] at h3
      exact ⟨_, b2, b1, rfl, h3⟩
  case rest =>
  obtain ⟨bb, mb, nb, rfl, hs⟩ := hcut
  have H0 := hid hs
  clear hs Hw
  go_wp2
  go_loopw [9] (fun i wr => ∃ j : Nat, j ≤ Z ∧ i = .int .i64 j ∧ SatL wr (cl bb 57 (both0 (smV mb Z) (smV nb Z)) :: SlB 5 (smV mb Z) (patz j Z) :: SlB 5 (smV nb Z) (patz j Z) :: L)) (fun i _ => Z - (intOf i).toNat)
  case atStart => exact ⟨0, by omega, rfl, H0.out⟩
  case round =>
    clear H0
    obtain ⟨j, hj, rfl, hs⟩ := hrel
    obtain ⟨c4, c5⟩ := hcl0.out _ _ _ _ _ hs
    by_cases hlt : j < Z
    · have hjz : (j : Int) < Z := by omega
      have hin : j < (bvs (patz j Z)).length := by rw [bvs_len, hpl.out j hj]; exact hlt
      have hA := Sl.set (hs.pull 1 : SatL wr (Sl _ _ _ :: _)) (i := j) hin (.int .u8 ((j : Int) % 256))
      rw [Nat.zero_add, hst.out j hlt] at hA
      have fA := Sl.free (hs.pull 1 : SatL wr (Sl _ _ _ :: _)) (0 + j)
      obtain ⟨u, cu⟩ : ∃ u, wr.cell? ⟨mb, 0 + j, none⟩ = some u := ⟨_, Sl.cell (hs.pull 1 : SatL wr (Sl _ _ _ :: _)) (List.getElem?_eq_getElem hin)⟩
      rw [Nat.zero_add] at cu fA
      obtain ⟨_, d5⟩ := hcl0.out _ _ _ _ _ (hA.pull 1)
      have hB := Sl.set (hA.pull 2 : SatL _ (Sl _ _ _ :: _)) (i := j) hin (.int .u8 ((j : Int) % 256))
      rw [Nat.zero_add, hst.out j hlt] at hB
      have fB := Sl.free (hA.pull 2 : SatL _ (Sl _ _ _ :: _)) (0 + j)
      obtain ⟨u2, cu2⟩ : ∃ u, (wr.setCell ⟨mb, j, none⟩ (.int .u8 ((j : Int) % 256))).cell? ⟨nb, 0 + j, none⟩ = some u := ⟨_, Sl.cell (hA.pull 2 : SatL _ (Sl _ _ _ :: _)) (List.getElem?_eq_getElem hin)⟩
      rw [Nat.zero_add] at cu2 fB
      have H1 := hid (hB.bring [2, 1, 0])
      clear hs hA hB hin
      go_wp2
      go_roundw
      case rel => exact ⟨j + 1, by omega, by go_num, H1.out⟩
      case measure => simp [intOf]; omega
    · obtain rfl : j = Z := by omega
      have H1 := hid hs
      obtain ⟨m0, hm0⟩ : ∃ m0, m0 = patz j j := ⟨_, rfl⟩
      have hm0l : m0.length = j := by rw [hm0]; exact hpl.out j (Nat.le_refl _)
      rw [← hm0] at hs
      clear H1 hz0 hst hpl hm0 hlt
      by_cases hf : atFits j base n
      · obtain ⟨hp, hb0, hfit⟩ := at_shape hf
        obtain ⟨b0, rfl⟩ := Int.eq_ofNat_of_zero_le hb0
        obtain ⟨n0, rfl, hp⟩ := hp
        have hfit' : b0 + qs n0 ≤ m0.length := by rw [hm0l]; have := hfit; rw [qsize_qs hp] at this; omega
        have k1 := newdrv_ok (base := b0) (n := n0) hp hfit' (by omega) (hs.bring [1, 0, 2])
        have k2 := hid (fun (w' : World) (X : List HP) (h : SatL w' (SlB 5 (smV nb j) m0 :: X)) => refnewdrv_ok (base := b0) (n := n0) hp hfit' (by omega) h)
        have k3 := hid (fun (w' : World) (X : List HP) (h : SatL w' X) => newdev_ok (mb := mb) (o := 0) (c := j) (base := b0) (n := n0) hp (by omega : b0 + qs n0 ≤ j) (by omega) (Nat.le_refl _) h)
        have k4 := hid (fun (w' : World) (X : List HP) (h : SatL w' X) => refnewdev_ok (mb := nb) (o := 0) (c := j) (base := b0) (n := n0) hp (by omega : b0 + qs n0 ≤ j) (by omega) h)
        have hlz : (lzero m0 b0 (qs n0)).length = j := by rw [lzero_len hfit', hm0l]
        have HPI := hid (show PI j (Dr.new b0 n0) ⟨b0, n0, 0, 0⟩ (lzero m0 b0 (qs n0)) from ⟨by rw [hlz, ← hm0l]; exact new_drok hp hfit', by rw [hlz, ← hm0l]; exact new_rgok hp hfit', own_new _ _, hlz, hzb⟩)
        clear hp hb0 hfit hfit' hf hlz hs
        generalize lzero m0 b0 (qs n0) = m1 at *
        go_upto_region 12 with (first
          | (go_at_call 10; (with_reducible refine k1.mono ?_); rintro e w2 ⟨v, rfl, db, rfl, h2⟩; obtain ⟨x4, x5⟩ := hcl0.out _ _ _ _ _ (h2.pull 2); have q2 := k2.out _ _ (h2.pull 3))
          | (go_at_call 30; (with_reducible refine q2.mono ?_); rintro e w3 ⟨v, rfl, xb, rfl, h3⟩; obtain ⟨y4, y5⟩ := hcl0.out _ _ _ _ _ (h3.pull 4); have q3 := k3.out _ _ h3)
          | (go_at_call 11; (with_reducible refine q3.mono ?_); rintro e w4 ⟨v, rfl, vb, rfl, h4⟩; obtain ⟨z4, z5⟩ := hcl0.out _ _ _ _ _ (h4.pull 5); have q4 := k4.out _ _ h4)
          | (go_at_call 31; (with_reducible refine q4.mono ?_); rintro e w5 ⟨v, rfl, yb, rfl, h5⟩; obtain ⟨v4, v5⟩ := hcl0.out _ _ _ _ _ (h5.pull 6)))
        have v1 := fun m => RdB.conv ((SlB.rd (h5.pull 3 : SatL _ (SlB _ _ _ :: _))).drewN m)
        have v2 := fun m => RdB.conv ((SlB.rd (h5.pull 5 : SatL _ (SlB _ _ _ :: _))).drewN m)
        generalize (⟨m1.toArray⟩ : ByteArray) = sb at *
        have H5 := hid h5
        clear h2 h3 h4 h5 k1 k2 k3 k4 q2 q3 q4 x4 x5 y4 y5 z4 z5 c4 c5
        go_quiet (fail)
        have h6 := (sat_dn.2 H5.out : SatL (w5.drewN nq) _)
        clear H5 v1 v2 v4 v5
        generalize w5.drewN nq = w6 at *
        have h7 := h6.pull 6
        have f0 := h7.free 0
        have f1 := h7.free 1
        have f2 := h7.free 2
        have f3 := h7.free 3
        have e0 : w6.cell? ⟨bb, 0, none⟩ = some (.pointer none) := h7.cell (i := 0) rfl
        have h8 : SatL _ (cl bb 57 _ :: _) := h7.set (i := 0) (.pointer (some ⟨db, 0, none⟩))
        have g0 := h8.free 2
        have g1 : _ = some (Value.pointer none) := h8.cell (i := 2) rfl
        have h9 : SatL _ (cl bb 57 _ :: _) := h8.set (i := 2) (.pointer (some ⟨xb, 0, none⟩))
        have g2 := h9.free 1
        have g3 : _ = some (Value.pointer none) := h9.cell (i := 1) rfl
        have h10 : SatL _ (cl bb 57 _ :: _) := h9.set (i := 1) (.pointer (some ⟨vb, 0, none⟩))
        have g4 := h10.free 3
        have g5 : _ = some (Value.pointer none) := h10.cell (i := 3) rfl
        have h11 : SatL _ (cl bb 57 (bothV db vb xb yb (smV mb j) (smV nb j) (.slice none 0 0)).toArray :: _) := h10.set (i := 3) (.pointer (some ⟨yb, 0, none⟩))
        have H11 := hid h11
        clear h6 h7 h8 h9 h10 h11
        go_wp2
        go_ret2
        refine Ret.mk (.inr ⟨bb, Dr.new b0 n0, ⟨b0, n0, 0, 0⟩, m1, rfl, HPI.out, sat_BothR.2 ⟨db, vb, xb, yb, mb, nb, .slice none 0 0, ?_⟩⟩)
        have h12 := Sl_nil (T := 3) H11.out
        exact h12.bring [1, 6, 3, 7, 4, 2, 5, 0]
      · have hb := Hb.out
        have k1 := newdrv_no (mb := mb) (o := 0) (c := j) hb hf (by omega) hs
        have k2 := hid (fun (w' : World) => refnewdrv_no (a := some ⟨nb, 0, none⟩) (c := j) hb hf (by omega) w')
        have k3 := hid (fun (w' : World) (X : List HP) (h : SatL w' X) => newdev_no (mb := mb) (o := 0) (c := j) hb hf (by omega) h)
        have k4 := hid (fun (w' : World) => refnewdev_no (a := some ⟨nb, 0, none⟩) (c := j) hb hf (by omega) w')
        clear hf hs hb Hb
        go_upto_region 12 with (first
          | (go_at_call 10; (with_reducible refine k1.mono ?_); rintro e w2 ⟨v, rfl, rfl, h2⟩; obtain ⟨x4, x5⟩ := hcl0.out _ _ _ _ _ h2; have q3 := k3.out _ _ h2)
          | (go_at_call 30; (with_reducible refine (k2.out _).mono ?_); rintro e w3 ⟨v, rfl, rfl, rfl⟩)
          | (go_at_call 11; (with_reducible refine q3.mono ?_); rintro e w4 ⟨v, rfl, rfl, h4⟩; obtain ⟨z4, z5⟩ := hcl0.out _ _ _ _ _ h4)
          | (go_at_call 31; (with_reducible refine (k4.out _).mono ?_); rintro e w5 ⟨v, rfl, rfl, rfl⟩))
        have v1 := fun m => RdB.conv ((SlB.rd (h4.pull 1 : SatL _ (SlB _ _ _ :: _))).drewN m)
        have v2 := fun m => RdB.conv ((SlB.rd (h4.pull 2 : SatL _ (SlB _ _ _ :: _))).drewN m)
        generalize (⟨m0.toArray⟩ : ByteArray) = sb at *
        have H4 := hid h4
        clear h2 h4 k1 k2 k3 k4 q3 x4 x5 c4 c5
        go_quiet (fail)
        have h6 := hid (sat_dn.2 H4.out : SatL (w4.drewN nq) _)
        clear H4 v1 v2 z4 z5
        go_wp2
        go_ret2
        exact Ret.mk (.inl ⟨rfl, h6.out.tail.tail.tail⟩)
end
end Go.Proofs.Ytnniipeoahpkcaa
