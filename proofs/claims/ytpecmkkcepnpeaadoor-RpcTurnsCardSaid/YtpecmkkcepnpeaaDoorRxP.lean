/- the document's rpc: Parse. No condition beside the sizes. Printed by genparse.py. -/
import Derived.Test.YtpecmkkcepnpeaaDoorRxC
import Derived.Test.YtpecmkkcepnpeaaDoorRxW
namespace Go.Proofs.YtpecmkkcepnpeaaDoor
set_option linter.unusedVariables false
set_option linter.unusedSimpArgs false
open Go.RowKit
def RefPost (L : List HP) (q : RL) (v : Value) (w : World) : Prop :=
  match q with
  | .bad e bs => ∃ sv, v = .tuple #[noCall, .int .i64 e, sv] ∧ SatL w (SlB 5 sv bs :: L)
  | .good c => ∃ gv bv, v = .tuple #[.agg (c.cells gv bv), .int .i64 0, .slice none 0 0] ∧ SatL w (Sl 22 gv (c.gids.map u32v) :: SlB 5 bv c.body :: L)
section
variable {w : World} {L : List HP}
theorem rsetz_sat {c2 : Nat} {X : List HP} (h : SatL w (cl c2 64 #[.int .u32 0, .int .u32 0, .int .u32 0, .int .u32 0, .int .u32 0, .int .u32 0, .slice none 0 0, .slice none 0 0] :: X)) : SatL ((((((((w.setCell ⟨c2, 0, none⟩ (.int .u32 0)).setCell ⟨c2, 1, none⟩ (.int .u32 0)).setCell ⟨c2, 2, none⟩ (.int .u32 0)).setCell ⟨c2, 3, none⟩ (.int .u32 0)).setCell ⟨c2, 4, none⟩ (.int .u32 0)).setCell ⟨c2, 5, none⟩ (.int .u32 0)).setCell ⟨c2, 6, none⟩ (.slice none 0 0)).setCell ⟨c2, 7, none⟩ (.slice none 0 0)) (cl c2 64 #[.int .u32 0, .int .u32 0, .int .u32 0, .int .u32 0, .int .u32 0, .int .u32 0, .slice none 0 0, .slice none 0 0] :: X) := by
  have h0 := SatL.set h (i := 0) (.int .u32 0)
  have h1 := SatL.set h0 (i := 1) (.int .u32 0)
  have h2 := SatL.set h1 (i := 2) (.int .u32 0)
  have h3 := SatL.set h2 (i := 3) (.int .u32 0)
  have h4 := SatL.set h3 (i := 4) (.int .u32 0)
  have h5 := SatL.set h4 (i := 5) (.int .u32 0)
  have h6 := SatL.set h5 (i := 6) (.slice none 0 0)
  have h7 := SatL.set h6 (i := 7) (.slice none 0 0)
  exact h7
theorem rcell8 {c2 : Nat} {X : List HP} {x0 x1 x2 x3 x4 x5 x6 x7 : Value} (h : SatL w (cl c2 64 #[x0, x1, x2, x3, x4, x5, x6, x7] :: X)) : w.cell? ⟨c2, 0, none⟩ = some x0 ∧ w.cell? ⟨c2, 1, none⟩ = some x1 ∧ w.cell? ⟨c2, 2, none⟩ = some x2 ∧ w.cell? ⟨c2, 3, none⟩ = some x3 ∧ w.cell? ⟨c2, 4, none⟩ = some x4 ∧ w.cell? ⟨c2, 5, none⟩ = some x5 ∧ w.cell? ⟨c2, 6, none⟩ = some x6 ∧ w.cell? ⟨c2, 7, none⟩ = some x7 :=
  ⟨h.cell (i := 0) rfl, h.cell (i := 1) rfl, h.cell (i := 2) rfl, h.cell (i := 3) rfl, h.cell (i := 4) rfl, h.cell (i := 5) rfl, h.cell (i := 6) rfl, h.cell (i := 7) rfl⟩
theorem rset8_sat {c2 : Nat} {X : List HP} {o0 o1 o2 o3 o4 o5 o6 o7 : Value} (h : SatL w (cl c2 64 #[o0, o1, o2, o3, o4, o5, o6, o7] :: X)) (x0 x1 x2 x3 x4 x5 x6 x7 : Value) : SatL ((((((((w.setCell ⟨c2, 0, none⟩ x0).setCell ⟨c2, 1, none⟩ x1).setCell ⟨c2, 2, none⟩ x2).setCell ⟨c2, 3, none⟩ x3).setCell ⟨c2, 4, none⟩ x4).setCell ⟨c2, 5, none⟩ x5).setCell ⟨c2, 6, none⟩ x6).setCell ⟨c2, 7, none⟩ x7) (cl c2 64 #[x0, x1, x2, x3, x4, x5, x6, x7] :: X) := by
  have h0 : SatL (w.setCell ⟨c2, 0, none⟩ x0) (cl c2 64 #[x0, o1, o2, o3, o4, o5, o6, o7] :: X) := SatL.set h (i := 0) x0
  have h1 : SatL ((w.setCell ⟨c2, 0, none⟩ x0).setCell ⟨c2, 1, none⟩ x1) (cl c2 64 #[x0, x1, o2, o3, o4, o5, o6, o7] :: X) := SatL.set h0 (i := 1) x1
  have h2 : SatL (((w.setCell ⟨c2, 0, none⟩ x0).setCell ⟨c2, 1, none⟩ x1).setCell ⟨c2, 2, none⟩ x2) (cl c2 64 #[x0, x1, x2, o3, o4, o5, o6, o7] :: X) := SatL.set h1 (i := 2) x2
  have h3 : SatL ((((w.setCell ⟨c2, 0, none⟩ x0).setCell ⟨c2, 1, none⟩ x1).setCell ⟨c2, 2, none⟩ x2).setCell ⟨c2, 3, none⟩ x3) (cl c2 64 #[x0, x1, x2, x3, o4, o5, o6, o7] :: X) := SatL.set h2 (i := 3) x3
  have h4 : SatL (((((w.setCell ⟨c2, 0, none⟩ x0).setCell ⟨c2, 1, none⟩ x1).setCell ⟨c2, 2, none⟩ x2).setCell ⟨c2, 3, none⟩ x3).setCell ⟨c2, 4, none⟩ x4) (cl c2 64 #[x0, x1, x2, x3, x4, o5, o6, o7] :: X) := SatL.set h3 (i := 4) x4
  have h5 : SatL ((((((w.setCell ⟨c2, 0, none⟩ x0).setCell ⟨c2, 1, none⟩ x1).setCell ⟨c2, 2, none⟩ x2).setCell ⟨c2, 3, none⟩ x3).setCell ⟨c2, 4, none⟩ x4).setCell ⟨c2, 5, none⟩ x5) (cl c2 64 #[x0, x1, x2, x3, x4, x5, o6, o7] :: X) := SatL.set h4 (i := 5) x5
  have h6 : SatL (((((((w.setCell ⟨c2, 0, none⟩ x0).setCell ⟨c2, 1, none⟩ x1).setCell ⟨c2, 2, none⟩ x2).setCell ⟨c2, 3, none⟩ x3).setCell ⟨c2, 4, none⟩ x4).setCell ⟨c2, 5, none⟩ x5).setCell ⟨c2, 6, none⟩ x6) (cl c2 64 #[x0, x1, x2, x3, x4, x5, x6, o7] :: X) := SatL.set h5 (i := 6) x6
  have h7 : SatL ((((((((w.setCell ⟨c2, 0, none⟩ x0).setCell ⟨c2, 1, none⟩ x1).setCell ⟨c2, 2, none⟩ x2).setCell ⟨c2, 3, none⟩ x3).setCell ⟨c2, 4, none⟩ x4).setCell ⟨c2, 5, none⟩ x5).setCell ⟨c2, 6, none⟩ x6).setCell ⟨c2, 7, none⟩ x7) (cl c2 64 #[x0, x1, x2, x3, x4, x5, x6, x7] :: X) := SatL.set h6 (i := 7) x7
  exact h7
set_option maxRecDepth 100000 in
set_option maxHeartbeats 8000000 in
theorem refparse_ok {v : Value} {b : List UInt8} (hb : b.length ≤ 10000000) (h : SatL w L) (g : Gives L (RdV v b)) :
    Calls Tryd.prog 30 #[v] w (Ret (RefPost L (readL b))) := by
  obtain ⟨a, c, rfl, g1, g2⟩ := (g w h).valn
  obtain ⟨bl, hbl⟩ : ∃ bl, b.length = bl := ⟨_, rfl⟩
  rw [hbl] at g g1 ⊢
  have Ha := h.alloc (.cells #[.int .u32 0, .int .u32 0, .int .u32 0, .int .u32 0, .int .u32 0, .int .u32 0, .slice none 0 0, .slice none 0 0] 64)
  have Hb := SatL.allocN (n := w.heap.size + 1) Ha (.cells #[.slice a bl c, .int .i64 0, .int .i64 0] 114) (by simp)
  have hr0 : SatL ((w.alloc (.cells #[.int .u32 0, .int .u32 0, .int .u32 0, .int .u32 0, .int .u32 0, .int .u32 0, .slice none 0 0, .slice none 0 0] 64)).alloc (.cells #[.slice a bl c, .int .i64 0, .int .i64 0] 114)) (RrR (w.heap.size + 1) (.slice a bl c) (Rdr.new b) :: cl w.heap.size 64 #[.int .u32 0, .int .u32 0, .int .u32 0, .int .u32 0, .int .u32 0, .int .u32 0, .slice none 0 0, .slice none 0 0] :: L) := sat_RrR.2 ⟨⟨Nat.zero_le _, by show b.length ≤ _; omega⟩, Hb⟩
  have hX : rxid b < 4294967296 := Rdr.num_lt _ _
  have hbs : (rd1 b).b = b ∧ (rd2 b).b = b ∧ (rd3 b).b = b ∧ (rd4 b).b = b ∧ (rd5 b).b = b ∧ (rd6 b).b = b ∧ (rd7 b).b = b ∧ (rd8 b).b = b ∧ (rd9 b).b = b ∧ (rd10 b).b = b := by
    simp only [rd1, rd2, rd3, rd4, rd5, rd6, rd7, rd8, rd9, rd10, Rdr.num_b, Rdr.bytes_b]
    exact ⟨rfl, rfl, rfl, rfl, rfl, rfl, rfl, rfl, rfl, rfl⟩
  obtain ⟨hb1, hb2, hb3, hb4, hb5, hb6, hb7, hb8, hb9, hb10⟩ := hbs
  have kk0 : Calls Tryd.prog 51 #[.pointer (some ⟨w.heap.size + 1, 0, none⟩)] _ (Ret fun v w'' => v = .int .u32 (rxid b : Int) ∧ SatL w'' (RrR (w.heap.size + 1) (.slice a bl c) (rd1 b) :: _)) := refu32_ok hr0 g.nx
  have U1 := hid (fun (w' : World) (X : List HP) (h : SatL w' (RrR (w.heap.size + 1) (.slice a bl c) (rd1 b) :: X)) (gx : Gives X (RdV (.slice a bl c) b)) => (show Calls Tryd.prog 51 #[.pointer (some ⟨w.heap.size + 1, 0, none⟩)] w' (Ret fun v w'' => v = .int .u32 (rkind b : Int) ∧ SatL w'' (RrR (w.heap.size + 1) (.slice a bl c) (rd2 b) :: X)) from refu32_ok h (by rw [hb1]; exact gx)))
  have U2 := hid (fun (w' : World) (X : List HP) (h : SatL w' (RrR (w.heap.size + 1) (.slice a bl c) (rd2 b) :: X)) (gx : Gives X (RdV (.slice a bl c) b)) => (show Calls Tryd.prog 51 #[.pointer (some ⟨w.heap.size + 1, 0, none⟩)] w' (Ret fun v w'' => v = .int .u32 (rvers b : Int) ∧ SatL w'' (RrR (w.heap.size + 1) (.slice a bl c) (rd3 b) :: X)) from refu32_ok h (by rw [hb2]; exact gx)))
  have U3 := hid (fun (w' : World) (X : List HP) (h : SatL w' (RrR (w.heap.size + 1) (.slice a bl c) (rd3 b) :: X)) (gx : Gives X (RdV (.slice a bl c) b)) => (show Calls Tryd.prog 51 #[.pointer (some ⟨w.heap.size + 1, 0, none⟩)] w' (Ret fun v w'' => v = .int .u32 (cprog b : Int) ∧ SatL w'' (RrR (w.heap.size + 1) (.slice a bl c) (rd4 b) :: X)) from refu32_ok h (by rw [hb3]; exact gx)))
  have U4 := hid (fun (w' : World) (X : List HP) (h : SatL w' (RrR (w.heap.size + 1) (.slice a bl c) (rd4 b) :: X)) (gx : Gives X (RdV (.slice a bl c) b)) => (show Calls Tryd.prog 51 #[.pointer (some ⟨w.heap.size + 1, 0, none⟩)] w' (Ret fun v w'' => v = .int .u32 (cvers b : Int) ∧ SatL w'' (RrR (w.heap.size + 1) (.slice a bl c) (rd5 b) :: X)) from refu32_ok h (by rw [hb4]; exact gx)))
  have U5 := hid (fun (w' : World) (X : List HP) (h : SatL w' (RrR (w.heap.size + 1) (.slice a bl c) (rd5 b) :: X)) (gx : Gives X (RdV (.slice a bl c) b)) => (show Calls Tryd.prog 51 #[.pointer (some ⟨w.heap.size + 1, 0, none⟩)] w' (Ret fun v w'' => v = .int .u32 (cproc b : Int) ∧ SatL w'' (RrR (w.heap.size + 1) (.slice a bl c) (rd6 b) :: X)) from refu32_ok h (by rw [hb5]; exact gx)))
  have U6 := hid (fun (w' : World) (X : List HP) (h : SatL w' (RrR (w.heap.size + 1) (.slice a bl c) (rd6 b) :: X)) (gx : Gives X (RdV (.slice a bl c) b)) => (show Calls Tryd.prog 51 #[.pointer (some ⟨w.heap.size + 1, 0, none⟩)] w' (Ret fun v w'' => v = .int .u32 (chow b : Int) ∧ SatL w'' (RrR (w.heap.size + 1) (.slice a bl c) (rd7 b) :: X)) from refu32_ok h (by rw [hb6]; exact gx)))
  have U8 := hid (fun (w' : World) (X : List HP) (h : SatL w' (RrR (w.heap.size + 1) (.slice a bl c) (rd8 b) :: X)) (gx : Gives X (RdV (.slice a bl c) b)) => (show Calls Tryd.prog 51 #[.pointer (some ⟨w.heap.size + 1, 0, none⟩)] w' (Ret fun v w'' => v = .int .u32 (cverf b : Int) ∧ SatL w'' (RrR (w.heap.size + 1) (.slice a bl c) (rd9 b) :: X)) from refu32_ok h (by rw [hb8]; exact gx)))
  have B7 := hid (fun (w' : World) (X : List HP) (h : SatL w' (RrR (w.heap.size + 1) (.slice a bl c) (rd7 b) :: X)) (gx : Gives X (RdV (.slice a bl c) b)) => (show Calls Tryd.prog 52 #[.pointer (some ⟨w.heap.size + 1, 0, none⟩), .int .i64 400] w' (Ret fun v w'' => SatL w'' (SlB 5 v (ctold b) :: RrR (w.heap.size + 1) (.slice a bl c) (rd8 b) :: X)) from refbytes_ok (most := 400) (by omega) h (by rw [hb7]; exact gx)))
  have B9 := hid (fun (w' : World) (X : List HP) (h : SatL w' (RrR (w.heap.size + 1) (.slice a bl c) (rd9 b) :: X)) (gx : Gives X (RdV (.slice a bl c) b)) => (show Calls Tryd.prog 52 #[.pointer (some ⟨w.heap.size + 1, 0, none⟩), .int .i64 400] w' (Ret fun v w'' => SatL w'' (SlB 5 v (cmore b) :: RrR (w.heap.size + 1) (.slice a bl c) (rd10 b) :: X)) from refbytes_ok (most := 400) (by omega) h (by rw [hb9]; exact gx)))
  have Gg := hid g
  have hq : readL b = readL b := rfl
  conv at hq => rhs; unfold readL
  have Hq := hid hq
  have Hbl := hid hbl
  have Hb10 := hid hb10
  clear h Ha Hb g hq hr0 hbl hb1 hb2 hb3 hb4 hb5 hb6 hb7 hb8 hb9 hb10
  generalize hXX : rxid b = XI at *
  generalize hKK : rkind b = KI at *
  generalize hVV : rvers b = VE at *
  clear hXX hKK hVV
  go_enter Tryd.func30, Tryd.ntmps30
  go_upto_region 5 with (first
    | (go_at_call 51; (with_reducible refine kk0.mono ?_); rintro e w2 ⟨q, rfl, rfl, h2⟩; have h2z := h2.alloc (.cells #[.int .u32 (XI : Int), .int .u32 0, .int .u32 0, .int .u32 0, .int .u32 0, .int .u32 0, .slice none 0 0, .slice none 0 0] 64); have k2 := U1.out _ _ h2z.swap Gg.out.nx.nx; clear h2 kk0 h2z)
    | (go_at_call 51; (with_reducible refine k2.mono ?_); rintro e w3 ⟨q, rfl, rfl, h3⟩; have k3 := U2.out _ _ h3 Gg.out.nx.nx; clear h3 k2)
    | (go_at_call 51; (with_reducible refine k3.mono ?_); rintro e w4 ⟨q, rfl, rfl, h4⟩; clear k3))
  obtain ⟨c6, hc6⟩ : ∃ c6, c6 = w2.heap.size := ⟨_, rfl⟩
  have h5 : SatL w4 (RrR (w.heap.size + 1) (.slice a bl c) (rd3 b) :: cl w2.heap.size 64 #[.int .u32 (XI : Int), .int .u32 0, .int .u32 0, .int .u32 0, .int .u32 0, .int .u32 0, .slice none 0 0, .slice none 0 0] :: cl w.heap.size 64 #[.int .u32 0, .int .u32 0, .int .u32 0, .int .u32 0, .int .u32 0, .int .u32 0, .slice none 0 0, .slice none 0 0] :: L) := h4
  clear h4
  rw [← hc6] at h5 ⊢
  clear hc6
  obtain ⟨c2, hc2⟩ : ∃ c2, c2 = w.heap.size := ⟨_, rfl⟩
  obtain ⟨r0, hr0⟩ : ∃ r0, r0 = w.heap.size + 1 := ⟨_, rfl⟩
  have U3 := U3.out
  have U4 := U4.out
  have U5 := U5.out
  have U6 := U6.out
  have U8 := U8.out
  have B7 := B7.out
  have B9 := B9.out
  have Gg := Gg.out
  rw [← hr0] at U3 U4 U5 U6 U8 B7 B9 h5 ⊢
  rw [← hc2] at h5 ⊢
  replace U3 := hid U3
  replace U4 := hid U4
  replace U5 := hid U5
  replace U6 := hid U6
  replace U8 := hid U8
  replace B7 := hid B7
  replace B9 := hid B9
  replace Gg := hid Gg
  clear hr0 hc2 U1 U2
  obtain ⟨ok5, h5r⟩ := sat_RrR.1 h5
  have cE := SatL.cell (h5r : SatL w4 (cl r0 _ _ :: _)) (i := 2) (v := .int .i64 (rd3 b).err) rfl
  by_cases hA : (rd3 b).err ≠ 0 ∨ KI ≠ 0
  · have hq2 := Hq.out
    rw [if_pos hA] at hq2
    have Hq2 := hid hq2
    clear hq2 Hq
    have hz : SatL w4 (cl c2 64 #[.int .u32 0, .int .u32 0, .int .u32 0, .int .u32 0, .int .u32 0, .int .u32 0, .slice none 0 0, .slice none 0 0] :: _) := h5.pull 2
    obtain ⟨z0, z1, z2, z3, z4, z5, z6, z7⟩ := rcell8 hz
    have f0 := SatL.free (hz : SatL _ (cl c2 _ _ :: _)) 0
    have f1 := SatL.free (hz : SatL _ (cl c2 _ _ :: _)) 1
    have f2 := SatL.free (hz : SatL _ (cl c2 _ _ :: _)) 2
    have f3 := SatL.free (hz : SatL _ (cl c2 _ _ :: _)) 3
    have f4 := SatL.free (hz : SatL _ (cl c2 _ _ :: _)) 4
    have f5 := SatL.free (hz : SatL _ (cl c2 _ _ :: _)) 5
    have f6 := SatL.free (hz : SatL _ (cl c2 _ _ :: _)) 6
    have f7 := SatL.free (hz : SatL _ (cl c2 _ _ :: _)) 7
    have hW := rsetz_sat hz
    have HW := hid hW
    clear hz hW
    by_cases he : (rd3 b).err = 0
    · have tk : ((KI : Int) != 0) = true := by rcases hA with h | h; exact absurd he h; simp; omega
      have te : ((rd3 b).err != 0) = false := by simp [he]
      clear hA
      go_wp2_with fail
      have hW := HW.out
      generalize ((((((((w4.setCell ⟨c2, 0, none⟩ (.int .u32 0)).setCell ⟨c2, 1, none⟩ (.int .u32 0)).setCell ⟨c2, 2, none⟩ (.int .u32 0)).setCell ⟨c2, 3, none⟩ (.int .u32 0)).setCell ⟨c2, 4, none⟩ (.int .u32 0)).setCell ⟨c2, 5, none⟩ (.int .u32 0)).setCell ⟨c2, 6, none⟩ (.slice none 0 0)).setCell ⟨c2, 7, none⟩ (.slice none 0 0)) = W3 at hW ⊢
      obtain ⟨r0, r1, r2, r3, r4, r5, r6, r7⟩ := rcell8 hW
      refine bodyPost_ret (v := .tuple #[noCall, .int .i64 31, .slice none 0 0]) (by simp [results, Tryd.results30, go_sem, r0, r1, r2, r3, r4, r5, r6, r7]) rfl (Ret.mk ?_)
      rw [Hq2.out]
      exact ⟨.slice none 0 0, rfl, Sl_nil (SatL.tail (SatL.tail (SatL.tail hW)))⟩
    · have te : ((rd3 b).err != 0) = true := by simpa using he
      clear hA
      go_wp2_with fail
      have hW := HW.out
      generalize ((((((((w4.setCell ⟨c2, 0, none⟩ (.int .u32 0)).setCell ⟨c2, 1, none⟩ (.int .u32 0)).setCell ⟨c2, 2, none⟩ (.int .u32 0)).setCell ⟨c2, 3, none⟩ (.int .u32 0)).setCell ⟨c2, 4, none⟩ (.int .u32 0)).setCell ⟨c2, 5, none⟩ (.int .u32 0)).setCell ⟨c2, 6, none⟩ (.slice none 0 0)).setCell ⟨c2, 7, none⟩ (.slice none 0 0)) = W3 at hW ⊢
      obtain ⟨r0, r1, r2, r3, r4, r5, r6, r7⟩ := rcell8 hW
      refine bodyPost_ret (v := .tuple #[noCall, .int .i64 31, .slice none 0 0]) (by simp [results, Tryd.results30, go_sem, r0, r1, r2, r3, r4, r5, r6, r7]) rfl (Ret.mk ?_)
      rw [Hq2.out]
      exact ⟨.slice none 0 0, rfl, Sl_nil (SatL.tail (SatL.tail (SatL.tail hW)))⟩
  have hq2 := Hq.out
  rw [if_neg hA] at hq2
  have Hq2' := hid hq2
  have he : (rd3 b).err = 0 := by omega
  have te : ((rd3 b).err != 0) = false := by simp [he]
  have tk : ((KI : Int) != 0) = false := by simp; omega
  clear hq2 Hq hA
  by_cases hB : VE ≠ 2
  · have hq3 := Hq2'.out
    rw [if_pos hB] at hq3
    have Hq2 := hid hq3
    have tv : ((VE : Int) != 2) = true := by simp; omega
    have x0 := SatL.cell (h5.pull 1 : SatL w4 (cl c6 _ _ :: _)) (i := 0) (v := .int .u32 (XI : Int)) rfl
    have hal := h5.alloc (.cells #[.int .u32 (XI : Int), .int .u32 1, .int .u32 1, .int .u32 0, .int .u32 2, .int .u32 2] 22)
    have kw := row_ok (us := [XI, 1, 1, 0, 2, 2]) (by intro u hu; simp at hu; omega) (by simp) hal (fun w' h' => RdW.ofCl (n := 6) (c := 6) h' rfl rfl (by omega) (by omega))
    obtain ⟨bn, hbn⟩ : ∃ bn, be4 [XI, 1, 1, 0, 2, 2] = bn := ⟨_, rfl⟩
    rw [hbn] at kw Hq2
    clear hq3 Hq2' hB hal hbn
    go_wp2_with (go_at_call 54; (with_reducible refine kw.mono ?_); rintro e w9 ⟨q, rfl, h9⟩; obtain ⟨m, hm⟩ : ∃ m, (bvs bn).length = m := ⟨_, rfl⟩; obtain ⟨qa, qc, rfl, _, _⟩ := Sl.valn h9 (m := m) hm; clear hm; have hz : SatL w9 (cl c2 64 #[.int .u32 0, .int .u32 0, .int .u32 0, .int .u32 0, .int .u32 0, .int .u32 0, .slice none 0 0, .slice none 0 0] :: _) := h9.pull 4; obtain ⟨z0, z1, z2, z3, z4, z5, z6, z7⟩ := rcell8 hz; have f0 := SatL.free (hz : SatL _ (cl c2 _ _ :: _)) 0; have f1 := SatL.free (hz : SatL _ (cl c2 _ _ :: _)) 1; have f2 := SatL.free (hz : SatL _ (cl c2 _ _ :: _)) 2; have f3 := SatL.free (hz : SatL _ (cl c2 _ _ :: _)) 3; have f4 := SatL.free (hz : SatL _ (cl c2 _ _ :: _)) 4; have f5 := SatL.free (hz : SatL _ (cl c2 _ _ :: _)) 5; have f6 := SatL.free (hz : SatL _ (cl c2 _ _ :: _)) 6; have f7 := SatL.free (hz : SatL _ (cl c2 _ _ :: _)) 7; have hW := rsetz_sat hz; have HW := hid hW; clear hz hW)
    have hW := HW.out
    generalize ((((((((w9.setCell ⟨c2, 0, none⟩ (.int .u32 0)).setCell ⟨c2, 1, none⟩ (.int .u32 0)).setCell ⟨c2, 2, none⟩ (.int .u32 0)).setCell ⟨c2, 3, none⟩ (.int .u32 0)).setCell ⟨c2, 4, none⟩ (.int .u32 0)).setCell ⟨c2, 5, none⟩ (.int .u32 0)).setCell ⟨c2, 6, none⟩ (.slice none 0 0)).setCell ⟨c2, 7, none⟩ (.slice none 0 0)) = W3 at hW ⊢
    obtain ⟨r0, r1, r2, r3, r4, r5, r6, r7⟩ := rcell8 hW
    refine bodyPost_ret (v := .tuple #[noCall, .int .i64 31, .slice qa m qc]) (by simp [results, Tryd.results30, go_sem, r0, r1, r2, r3, r4, r5, r6, r7]) rfl (Ret.mk ?_)
    rw [Hq2.out]
    exact ⟨.slice qa m qc, rfl, SatL.tail (SatL.tail (SatL.tail (SatL.tail (hW.bring [0, 2, 3, 4, 1]))))⟩
  have hP1 : cprog b < 4294967296 := Rdr.num_lt _ _
  have hP2 : cvers b < 4294967296 := Rdr.num_lt _ _
  have hP3 : cproc b < 4294967296 := Rdr.num_lt _ _
  have hP4 : chow b < 4294967296 := Rdr.num_lt _ _
  have hP5 : cverf b < 4294967296 := Rdr.num_lt _ _
  have hq3 := Hq2'.out
  rw [if_neg hB] at hq3
  have Hq3 := hid hq3
  have tv : ((VE : Int) != 2) = false := by simp; omega
  clear hq3 Hq2' hB
  unfold cwhy at Hq3
  have hTO : (ctold b).length ≤ 1000 := Nat.le_trans (bytes_len (rd7 b) 400) (by omega)
  have hMO : (cmore b).length ≤ 1000 := Nat.le_trans (bytes_len (rd9 b) 400) (by omega)
  generalize cprog b = PR at *
  generalize cvers b = VR at *
  generalize cproc b = PO at *
  generalize chow b = HO at *
  generalize cverf b = VF at *
  generalize ctold b = TO at *
  generalize cmore b = MO at *
  have k3 := U3.out _ _ h5 Gg.out.nx.nx
  obtain ⟨tn, htn⟩ : ∃ tn, TO.length = tn := ⟨_, rfl⟩
  obtain ⟨mn, hmn⟩ : ∃ mn, MO.length = mn := ⟨_, rfl⟩
  have Htn := hid htn
  have Hmn := hid hmn
  clear htn hmn h5r
  go_upto_region 16 with (first
    | (go_at_call 51; (with_reducible refine k3.mono ?_); rintro e w5 ⟨q, rfl, rfl, h6⟩; have x1 := SatL.cell (h6.pull 1 : SatL w5 (cl c6 _ _ :: _)) (i := 1) rfl; have y1 := SatL.free (h6.pull 1 : SatL w5 (cl c6 _ _ :: _)) 1; have hs7 := SatL.set (h6.pull 1 : SatL w5 (cl c6 _ _ :: _)) (i := 1) (.int .u32 (PR : Int)); have k4 := U4.out _ _ (SatL.swap hs7) Gg.out.nx.nx; clear h6 k3 hs7)
    | (go_at_call 51; (with_reducible refine k4.mono ?_); rintro e w6 ⟨q, rfl, rfl, h6⟩; have x2 := SatL.cell (h6.pull 1 : SatL w6 (cl c6 _ _ :: _)) (i := 2) rfl; have y2 := SatL.free (h6.pull 1 : SatL w6 (cl c6 _ _ :: _)) 2; have hs7 := SatL.set (h6.pull 1 : SatL w6 (cl c6 _ _ :: _)) (i := 2) (.int .u32 (VR : Int)); have k5 := U5.out _ _ (SatL.swap hs7) Gg.out.nx.nx; clear h6 k4 hs7 x1 y1)
    | (go_at_call 51; (with_reducible refine k5.mono ?_); rintro e w7 ⟨q, rfl, rfl, h6⟩; have x3 := SatL.cell (h6.pull 1 : SatL w7 (cl c6 _ _ :: _)) (i := 3) rfl; have y3 := SatL.free (h6.pull 1 : SatL w7 (cl c6 _ _ :: _)) 3; have hs7 := SatL.set (h6.pull 1 : SatL w7 (cl c6 _ _ :: _)) (i := 3) (.int .u32 (PO : Int)); have k6 := U6.out _ _ (SatL.swap hs7) Gg.out.nx.nx; clear h6 k5 hs7 x2 y2)
    | (go_at_call 51; (with_reducible refine k6.mono ?_); rintro e w8 ⟨q, rfl, rfl, h6⟩; have k7 := B7.out _ _ h6 Gg.out.nx.nx; clear h6 k6 x3 y3)
    | (go_at_call 52; (with_reducible refine k7.mono ?_); rintro e w9 ⟨q, rfl, h6⟩; obtain ⟨ta, tc, rfl, _, _⟩ := Sl.valn h6 (m := tn) (by rw [bvs_len]; exact Htn.out); have k8 := U8.out _ _ (SatL.swap h6) Gg.out.nx.nx.nx; clear h6 k7)
    | (go_at_call 51; (with_reducible refine k8.mono ?_); rintro e w10 ⟨q, rfl, rfl, h6⟩; have k9 := B9.out _ _ h6 Gg.out.nx.nx.nx; clear h6 k8)
    | (go_at_call 52; (with_reducible refine k9.mono ?_); rintro e w11 ⟨q, rfl, h6⟩; obtain ⟨ma, mc, rfl, _, _⟩ := Sl.valn h6 (m := mn) (by rw [bvs_len]; exact Hmn.out); clear k9))
  have h7 : SatL w11 (SlB 5 (.slice ma mn mc) MO :: RrR r0 (.slice a bl c) (rd10 b) :: SlB 5 (.slice ta tn tc) TO :: cl c6 64 #[.int .u32 (XI : Int), .int .u32 (PR : Int), .int .u32 (VR : Int), .int .u32 (PO : Int), .int .u32 0, .int .u32 0, .slice none 0 0, .slice none 0 0] :: cl c2 64 #[.int .u32 0, .int .u32 0, .int .u32 0, .int .u32 0, .int .u32 0, .int .u32 0, .slice none 0 0, .slice none 0 0] :: L) := h6
  clear h6 h5 U3 U4 U5 U6 U8 B7 B9 cE
  obtain ⟨ok10, h7r⟩ := sat_RrR.1 (h7.pull 1)
  have cE := SatL.cell (h7r : SatL w11 (cl r0 _ _ :: _)) (i := 2) (v := .int .i64 (rd10 b).err) rfl
  by_cases hE10 : (rd10 b).err ≠ 0
  · have hq4 := Hq3.out
    rw [if_pos hE10] at hq4
    have Hq2 := hid hq4
    have te : ((rd10 b).err != 0) = true := by simpa using hE10
    clear hq4 Hq3
    have hz : SatL w11 (cl c2 64 #[.int .u32 0, .int .u32 0, .int .u32 0, .int .u32 0, .int .u32 0, .int .u32 0, .slice none 0 0, .slice none 0 0] :: _) := h7.pull 4
    obtain ⟨z0, z1, z2, z3, z4, z5, z6, z7⟩ := rcell8 hz
    have f0 := SatL.free (hz : SatL _ (cl c2 _ _ :: _)) 0
    have f1 := SatL.free (hz : SatL _ (cl c2 _ _ :: _)) 1
    have f2 := SatL.free (hz : SatL _ (cl c2 _ _ :: _)) 2
    have f3 := SatL.free (hz : SatL _ (cl c2 _ _ :: _)) 3
    have f4 := SatL.free (hz : SatL _ (cl c2 _ _ :: _)) 4
    have f5 := SatL.free (hz : SatL _ (cl c2 _ _ :: _)) 5
    have f6 := SatL.free (hz : SatL _ (cl c2 _ _ :: _)) 6
    have f7 := SatL.free (hz : SatL _ (cl c2 _ _ :: _)) 7
    have hW := rsetz_sat hz
    have HW := hid hW
    clear hz hW
    go_wp2_with fail
    have hW := HW.out
    generalize ((((((((w11.setCell ⟨c2, 0, none⟩ (.int .u32 0)).setCell ⟨c2, 1, none⟩ (.int .u32 0)).setCell ⟨c2, 2, none⟩ (.int .u32 0)).setCell ⟨c2, 3, none⟩ (.int .u32 0)).setCell ⟨c2, 4, none⟩ (.int .u32 0)).setCell ⟨c2, 5, none⟩ (.int .u32 0)).setCell ⟨c2, 6, none⟩ (.slice none 0 0)).setCell ⟨c2, 7, none⟩ (.slice none 0 0)) = W3 at hW ⊢
    obtain ⟨r0, r1, r2, r3, r4, r5, r6, r7⟩ := rcell8 hW
    refine bodyPost_ret (v := .tuple #[noCall, .int .i64 31, .slice none 0 0]) (by simp [results, Tryd.results30, go_sem, r0, r1, r2, r3, r4, r5, r6, r7]) rfl (Ret.mk ?_)
    rw [Hq2.out]
    exact ⟨.slice none 0 0, rfl, Sl_nil (SatL.tail (SatL.tail (SatL.tail (SatL.tail (SatL.tail hW)))))⟩
  have hq4 := Hq3.out
  rw [if_neg hE10] at hq4
  have Hq4 := hid hq4
  have hE11 : (rd10 b).err = 0 := by omega
  have te : ((rd10 b).err != 0) = false := by simp [hE11]
  clear hq4 Hq3 hE10
  obtain ⟨CR, hCR⟩ : ∃ CR, credL HO TO = CR := ⟨_, rfl⟩
  rw [hCR] at Hq4
  have HCR := hid hCR
  clear hCR
  go_upto_block 0 with fail
  go_cut [13, 14, 15] from 68 to 85 (fun why _ _ wx => ∃ (WY UI GI : Nat) (GS : List Nat) (gv : Value), WY < 4294967296 ∧ why = .int .u32 (WY : Int) ∧ Hid (CR.2 = WY ∧ (WY = 0 → CR.1 = ⟨UI, GI, GS⟩)) ∧ SatL wx (SlB 5 (.slice ma mn mc) MO :: RrR r0 (.slice a bl c) (rd10 b) :: Sl 22 gv (GS.map u32v) :: cl c6 64 #[.int .u32 (XI : Int), .int .u32 (PR : Int), .int .u32 (VR : Int), .int .u32 (PO : Int), .int .u32 (UI : Int), .int .u32 (GI : Int), gv, .slice none 0 0] :: cl c2 64 #[.int .u32 0, .int .u32 0, .int .u32 0, .int .u32 0, .int .u32 0, .int .u32 0, .slice none 0 0, .slice none 0 0] :: L))
  case first =>
    have Hz := hid (fun (w' : World) (X : List HP) (h : SatL w' (cl c6 64 #[.int .u32 (XI : Int), .int .u32 (PR : Int), .int .u32 (VR : Int), .int .u32 (PO : Int), .int .u32 0, .int .u32 0, .slice none 0 0, .slice none 0 0] :: X)) => (⟨h.cell (i := 4) rfl, h.cell (i := 5) rfl, h.cell (i := 6) rfl, h.free 4, h.free 5, h.free 6⟩ : w'.cell? ⟨c6, 4, none⟩ = some (.int .u32 0) ∧ w'.cell? ⟨c6, 5, none⟩ = some (.int .u32 0) ∧ w'.cell? ⟨c6, 6, none⟩ = some (.slice none 0 0) ∧ w'.frozen? ⟨c6, 4, none⟩ = false ∧ w'.frozen? ⟨c6, 5, none⟩ = false ∧ w'.frozen? ⟨c6, 6, none⟩ = false))
    have Ht := hid (fun (w' : World) (X : List HP) (x4 x5 x6 : Value) (h : SatL w' (cl c6 64 #[.int .u32 (XI : Int), .int .u32 (PR : Int), .int .u32 (VR : Int), .int .u32 (PO : Int), .int .u32 0, .int .u32 0, .slice none 0 0, .slice none 0 0] :: X)) => (SatL.set (SatL.set (SatL.set h (i := 4) x4) (i := 5) x5) (i := 6) x6 : SatL (((w'.setCell ⟨c6, 4, none⟩ x4).setCell ⟨c6, 5, none⟩ x5).setCell ⟨c6, 6, none⟩ x6) (cl c6 64 #[.int .u32 (XI : Int), .int .u32 (PR : Int), .int .u32 (VR : Int), .int .u32 (PO : Int), x4, x5, x6, .slice none 0 0] :: X)))
    obtain ⟨z4, z5, z6, f4, f5, f6⟩ := Hz.out _ _ (h7.pull 3)
    by_cases hH0 : HO = 0
    · have t0 : ((HO : Int) == 0) = true := by simp [hH0]
      have hW := Ht.out _ _ (.int .u32 65534) (.int .u32 65534) (.slice none 0 0) (h7.pull 3)
      have hS := (((Sl_nil (T := 22) hW).pull 4).tail).bring [2, 3, 0, 1]
      have HS := hid hS
      by_cases hT : tn = 0
      · have t1 : ¬ (0 : Int) < tn := by omega
        have t2 : ¬ 0 < tn := by omega
        have hc : CR = (⟨65534, 65534, []⟩, 0) := by rw [← HCR.out]; unfold credL; rw [if_pos hH0, if_pos (by rw [Htn.out]; exact hT)]
        clear hH0 hT hW hS
        go_wp2_with fail
        go_meet
        exact ⟨0, 65534, 65534, [], .slice none 0 0, by omega, rfl, hid ⟨by rw [hc], fun _ => by rw [hc]⟩, HS.out⟩
      · have t1 : (0 : Int) < tn := by omega
        have t2 : 0 < tn := by omega
        have hc : CR = (.none, 1) := by rw [← HCR.out]; unfold credL; rw [if_pos hH0, if_neg (by rw [Htn.out]; exact hT)]
        clear hH0 hT hW hS
        go_wp2_with fail
        go_meet
        exact ⟨1, 65534, 65534, [], .slice none 0 0, by omega, rfl, hid ⟨by rw [hc], fun h => by cases h⟩, HS.out⟩
    · have t0 : ((HO : Int) == 0) = false := by simp; omega
      by_cases hH1 : HO = 1
      · have t1 : ((HO : Int) == 1) = true := by simp [hH1]
        have kC := refsys_ok (b := TO) hTO h7 (fun w' h' => RdB.v (SlB.rd (SatL.tail (SatL.tail h'))))
        have hc : CR = if sysGood TO then (sysC TO, 0) else (.none, 1) := by rw [← HCR.out, hH1]; exact credL_sys TO
        have hsy : sysL TO = if sysGood TO then (sysC TO, true) else (.none, false) := rfl
        clear hH1 hH0 z4 z5 z6 f4 f5 f6
        by_cases hG : sysGood TO
        · rw [if_pos hG] at hc hsy
          rw [hsy] at kC
          generalize hsc : sysC TO = SC at *
          clear hsc
          obtain ⟨UI, GI, GS⟩ := SC
          obtain ⟨gn, hgn⟩ : ∃ gn, GS.length = gn := ⟨_, rfl⟩
          have Hgn := hid hgn
          have Hc := hid hc
          clear hG hgn hc hsy
          go_wp2_with (go_at_call 58; (with_reducible refine kC.mono ?_); rintro e w12 ⟨q, rfl, gv, rfl, h8⟩; obtain ⟨ga, gc, rfl, _, _⟩ := Sl.valn h8 (m := gn) (by rw [List.length_map]; exact Hgn.out); have h9 := h8.alloc (.cells #[.int .u32 (UI : Int), .int .u32 (GI : Int), .slice ga gn gc] 25); obtain ⟨z4, z5, z6, f4, f5, f6⟩ := Hz.out _ _ (h9.pull 5); have H9 := hid (Ht.out _ _ (.int .u32 (UI : Int)) (.int .u32 (GI : Int)) (.slice ga gn gc) (h9.pull 5)); clear h8 h9)
          go_meet
          exact ⟨0, UI, GI, GS, .slice ga gn gc, by omega, rfl, hid ⟨by rw [Hc.out], fun _ => by rw [Hc.out]⟩, (((((H9.out.pull 5).tail).pull 1).tail).bring [2, 3, 1, 0])⟩
        · rw [if_neg hG] at hc hsy
          rw [hsy] at kC
          generalize hsc : CredL.none = SC at *
          clear hsc
          obtain ⟨UI, GI, GS⟩ := SC
          obtain ⟨gn, hgn⟩ : ∃ gn, GS.length = gn := ⟨_, rfl⟩
          have Hgn := hid hgn
          have Hc := hid hc
          clear hG hgn hc hsy
          go_wp2_with (go_at_call 58; (with_reducible refine kC.mono ?_); rintro e w12 ⟨q, rfl, gv, rfl, h8⟩; obtain ⟨ga, gc, rfl, _, _⟩ := Sl.valn h8 (m := gn) (by rw [List.length_map]; exact Hgn.out); have h9 := h8.alloc (.cells #[.int .u32 (UI : Int), .int .u32 (GI : Int), .slice ga gn gc] 25); obtain ⟨z4, z5, z6, f4, f5, f6⟩ := Hz.out _ _ (h9.pull 5); have H9 := hid (Ht.out _ _ (.int .u32 (UI : Int)) (.int .u32 (GI : Int)) (.slice ga gn gc) (h9.pull 5)); clear h8 h9)
          go_meet
          exact ⟨1, UI, GI, GS, .slice ga gn gc, by omega, rfl, hid ⟨by rw [Hc.out], fun h => by cases h⟩, (((((H9.out.pull 5).tail).pull 1).tail).bring [2, 3, 1, 0])⟩
      · have t1 : ((HO : Int) == 1) = false := by simp; omega
        have hc : CR = (.none, 5) := by rw [← HCR.out]; unfold credL; rw [if_neg hH0, if_pos hH1]
        have HS := hid ((((Sl_nil (T := 22) h7).pull 3).tail).bring [1, 2, 0])
        clear hH0 hH1 z4 z5 z6 f4 f5 f6
        go_wp2_with fail
        go_meet
        exact ⟨5, 0, 0, [], .slice none 0 0, by omega, rfl, hid ⟨by rw [hc], fun h => by cases h⟩, HS.out⟩
  case rest =>
    obtain ⟨WY, UI, GI, GS, gv, hWY, rfl, HWY, hs⟩ := hcut
    clear h7 h7r cE
    obtain ⟨Y, hY⟩ : ∃ Y, (if CR.2 = 0 ∧ (VF ≠ 0 ∨ 0 < MO.length) then 3 else CR.2) = Y := ⟨_, rfl⟩
    rw [hY] at Hq4
    have HY := hid hY
    clear hY
    go_upto_region 30 with fail
    obtain ⟨wq, hwq⟩ : ∃ wq, wq = wc := ⟨_, rfl⟩
    rw [← hwq] at hs ⊢
    clear hwq
    obtain ⟨TB, hTB⟩ : ∃ TB, decide (WY = 0 ∧ (VF ≠ 0 ∨ 0 < mn)) = TB := ⟨_, rfl⟩
    have HTB := hid hTB
    clear hTB
    go_cut [96] from 86 to 95 (fun t wy => t = .bool TB ∧ wy = wq)
    case first =>
      by_cases hW0 : WY = 0
      · have t0 : ((WY : Int) == 0) = true := by simp [hW0]
        by_cases hF : VF = 0
        · have t1 : ((VF : Int) != 0) = false := by simp [hF]
          by_cases hM : 0 < mn
          · have t2 : (0 : Int) < mn := by omega
            have hc : TB = true := by rw [← HTB.out]; exact decide_eq_true ⟨hW0, .inr hM⟩
            have HM := hid hM
            clear hW0 hF hM
            subst hc
            go_wp2_with fail
            go_meet
            exact ⟨by rw [decide_eq_true HM.out], rfl⟩
          · have t2 : ¬ (0 : Int) < mn := by omega
            have hc : TB = false := by rw [← HTB.out]; exact decide_eq_false (by omega)
            have HM := hid hM
            clear hW0 hF hM
            subst hc
            go_wp2_with fail
            go_meet
            exact ⟨by rw [decide_eq_false HM.out], rfl⟩
        · have t1 : ((VF : Int) != 0) = true := by simp; omega
          have hc : TB = true := by rw [← HTB.out]; exact decide_eq_true ⟨hW0, .inl hF⟩
          clear hW0 hF
          subst hc
          go_wp2_with fail
          go_meet
          exact ⟨rfl, rfl⟩
      · have t0 : ((WY : Int) == 0) = false := by simp; omega
        have hc : TB = false := by rw [← HTB.out]; exact decide_eq_false (fun h => hW0 h.1)
        clear hW0
        subst hc
        go_wp2_with fail
        go_meet
        exact ⟨rfl, rfl⟩
    case rest =>
    obtain ⟨rfl, hwe⟩ := hcut
    rw [hwe]
    clear hwe
    go_upto_if 96 with fail
    go_cut [13] from 96 to 96 (fun why wy => why = .int .u32 (Y : Int) ∧ wy = wq)
    case first =>
      cases TB with
      | true =>
        have hc : Y = 3 := by have := of_decide_eq_true HTB.out; rw [← HY.out, HWY.out.1, if_pos (by rw [Hmn.out]; exact this)]
        have Hc := hid hc
        clear hc
        go_wp2_with fail
        go_meet
        exact ⟨by rw [Hc.out]; rfl, rfl⟩
      | false =>
        have hc : Y = WY := by have := of_decide_eq_false HTB.out; rw [← HY.out, HWY.out.1, if_neg (by rw [Hmn.out]; exact this)]
        have Hc := hid hc
        clear hc
        go_wp2_with fail
        go_meet
        exact ⟨by rw [Hc.out], rfl⟩
    case rest =>
    obtain ⟨rfl, hwe⟩ := hcut
    rw [hwe]
    clear hwe
    have hYl : Y < 4294967296 := by rw [← HY.out, HWY.out.1]; split <;> omega
    clear HTB
    by_cases hY0 : Y ≠ 0
    · have hq5 := Hq4.out
      rw [if_pos hY0] at hq5
      have Hq2 := hid hq5
      have t0 : ((Y : Int) != 0) = true := by simp; omega
      have x0 := SatL.cell (hs.pull 3 : SatL wq (cl c6 _ _ :: _)) (i := 0) (v := .int .u32 (XI : Int)) rfl
      have hal := hs.alloc (.cells #[.int .u32 (XI : Int), .int .u32 1, .int .u32 1, .int .u32 1, .int .u32 (Y : Int)] 22)
      have kw := row_ok (us := [XI, 1, 1, 1, Y]) (by intro u hu; simp at hu; omega) (by simp) hal (fun w' h' => RdW.ofCl (n := 5) (c := 5) h' rfl rfl (by omega) (by omega))
      obtain ⟨bn, hbn⟩ : ∃ bn, be4 [XI, 1, 1, 1, Y] = bn := ⟨_, rfl⟩
      rw [hbn] at kw Hq2
      clear hq5 Hq4 hY0 hal hbn
      go_wp2_with (go_at_call 54; (with_reducible refine kw.mono ?_); rintro e w19 ⟨q, rfl, h19⟩; obtain ⟨m, hm⟩ : ∃ m, (bvs bn).length = m := ⟨_, rfl⟩; obtain ⟨qa, qc, rfl, _, _⟩ := Sl.valn h19 (m := m) hm; clear hm; have hz : SatL w19 (cl c2 64 #[.int .u32 0, .int .u32 0, .int .u32 0, .int .u32 0, .int .u32 0, .int .u32 0, .slice none 0 0, .slice none 0 0] :: _) := h19.pull 6; obtain ⟨z0, z1, z2, z3, z4, z5, z6, z7⟩ := rcell8 hz; have f0 := SatL.free (hz : SatL _ (cl c2 _ _ :: _)) 0; have f1 := SatL.free (hz : SatL _ (cl c2 _ _ :: _)) 1; have f2 := SatL.free (hz : SatL _ (cl c2 _ _ :: _)) 2; have f3 := SatL.free (hz : SatL _ (cl c2 _ _ :: _)) 3; have f4 := SatL.free (hz : SatL _ (cl c2 _ _ :: _)) 4; have f5 := SatL.free (hz : SatL _ (cl c2 _ _ :: _)) 5; have f6 := SatL.free (hz : SatL _ (cl c2 _ _ :: _)) 6; have f7 := SatL.free (hz : SatL _ (cl c2 _ _ :: _)) 7; have hW := rsetz_sat hz; have HW := hid hW; clear hz hW)
      have hW := HW.out
      generalize ((((((((w19.setCell ⟨c2, 0, none⟩ (.int .u32 0)).setCell ⟨c2, 1, none⟩ (.int .u32 0)).setCell ⟨c2, 2, none⟩ (.int .u32 0)).setCell ⟨c2, 3, none⟩ (.int .u32 0)).setCell ⟨c2, 4, none⟩ (.int .u32 0)).setCell ⟨c2, 5, none⟩ (.int .u32 0)).setCell ⟨c2, 6, none⟩ (.slice none 0 0)).setCell ⟨c2, 7, none⟩ (.slice none 0 0)) = W3 at hW ⊢
      obtain ⟨r0, r1, r2, r3, r4, r5, r6, r7⟩ := rcell8 hW
      refine bodyPost_ret (v := .tuple #[noCall, .int .i64 32, .slice qa m qc]) (by simp [results, Tryd.results30, go_sem, r0, r1, r2, r3, r4, r5, r6, r7]) rfl (Ret.mk ?_)
      rw [Hq2.out]
      exact ⟨.slice qa m qc, rfl, SatL.tail (SatL.tail (SatL.tail (SatL.tail (SatL.tail (SatL.tail (hW.bring [0, 2, 3, 4, 5, 6, 1]))))))⟩
    have hY1 : Y = 0 := by omega
    have hq5 := Hq4.out
    rw [if_neg hY0] at hq5
    have t0 : ((Y : Int) != 0) = false := by simp [hY1]
    have hW1 : WY = 0 := by
      have h1 := HY.out
      rw [HWY.out.1] at h1
      split at h1 <;> omega
    rw [HWY.out.2 hW1] at hq5
    have Hq5 := hid hq5
    clear hq5 Hq4 hY0 hY1 HY HWY hW1 HCR
    have h20 := Sl_u32s (l := [XI, 1, 0, 0, 0]) (cs := #[.int .u32 (XI : Int), .int .u32 1, .int .u32 0, .int .u32 0, .int .u32 0]) (nb := wq.heap.size) (n := 5) rfl rfl rfl (by omega) hs
    have x0 := SatL.cell (hs.pull 3 : SatL wq (cl c6 _ _ :: _)) (i := 0) (v := .int .u32 (XI : Int)) rfl
    have hu5 : ∀ u ∈ [XI, 1, 0, 0, 0], u < 4294967296 := by intro u hu; simp at hu; omega
    have Hu5 := hid hu5
    clear hs hu5
    go_upto_block 1 with fail
    generalize wq.alloc (.cells #[.int .u32 (XI : Int), .int .u32 1, .int .u32 0, .int .u32 0, .int .u32 0] 22) = wh at h20 ⊢
    generalize wq.heap.size = nh at h20 ⊢
    clear x0
    have x1 := SatL.cell (h20.pull 4 : SatL wh (cl c6 _ _ :: _)) (i := 1) (v := .int .u32 (PR : Int)) rfl
    have x2 := SatL.cell (h20.pull 4 : SatL wh (cl c6 _ _ :: _)) (i := 2) (v := .int .u32 (VR : Int)) rfl
    have x3 := SatL.cell (h20.pull 4 : SatL wh (cl c6 _ _ :: _)) (i := 3) (v := .int .u32 (PO : Int)) rfl
    go_cut [] from 108 to 149 (fun wx => Hid (knownL PR VR PO = (0, [])) ∧ wx = wh)
    case first =>
      by_cases hp3 : PR = 100003
      · have hp5 : PR ≠ 100005 := by omega
        have t1 : ((PR : Int) != 100003) = false := by simp [hp3]
        have t3 : ((PR : Int) == 100005) = false := by simp; omega
        by_cases hv : VR = 3
        · have t4 : ((VR : Int) != 3) = false := by simp [hv]
          by_cases ho : 21 < PO
          · have t5 : (21 : Int) < PO := by omega
            have hk : knownL PR VR PO = (36, [3]) := by unfold knownL; rw [if_pos (.inr hp3), if_neg (by omega), if_pos (by rw [if_neg hp5]; exact ho)]
            clear hp3 hp5 hv ho
            have hq6 : readL b = .bad 36 (be4 [XI, 1, 0, 0, 0, 3]) := by rw [Hq5.out, hk, if_pos (show ((36 : Int), [3]).1 ≠ 0 by decide)]; rfl
            obtain ⟨bn, hbn⟩ : ∃ bn, be4 [XI, 1, 0, 0, 0, 3] = bn := ⟨_, rfl⟩
            rw [hbn] at hq6
            have Hq2 := hid hq6
            have hal := h20.alloc (.cells #[.int .u32 3] 22)
            have hul : ∀ u ∈ [XI, 1, 0, 0, 0, 3], u < 4294967296 := by intro u hu; have := Hu5.out; simp at hu; omega
            have Hul := hid hul
            have Hal := hid hal
            have hK := Sl.toK (n := 5) hal.swap (by simp)
            have hx := SrcOk.ofCl (k := 1) (n := 1) elem_u32.under hal rfl 1
            have Hbn := hid hbn
            clear hq6 hbn hk hul hal Hq5
            go_wp2_with (first
              | (at_builtin; refine wpList_append_sl (w := wh.alloc (.cells #[.int .u32 3] 22)) rfl (.tmp 146) (.tmp 147) rfl elem_u32 rfl hK rfl hx (by simp [Value.oneCell']) (by omega) (by unfold maxLen; omega) ?_; intro v18 w18 h18 _; have h18a : SatL w18 (Sl 22 v18 ([XI, 1, 0, 0, 0, 3].map u32v) :: _) := Sl.ofK h18; obtain ⟨va, vc, rfl, _, _⟩ := Sl.valn h18a (m := 6) rfl; have kw := row_ok (us := [XI, 1, 0, 0, 0, 3]) Hul.out (by simp) h18a (fun w' h' => SlW.rd h'); rw [Hbn.out] at kw)
              | (go_at_call 54; (with_reducible refine kw.mono ?_); rintro e w19 ⟨q, rfl, h19⟩; obtain ⟨m, hm⟩ : ∃ m, (bvs bn).length = m := ⟨_, rfl⟩; obtain ⟨qa, qc, rfl, _, _⟩ := Sl.valn h19 (m := m) hm; clear hm; have hz : SatL w19 (cl c2 64 #[.int .u32 0, .int .u32 0, .int .u32 0, .int .u32 0, .int .u32 0, .int .u32 0, .slice none 0 0, .slice none 0 0] :: _) := h19.pull 7; obtain ⟨z0, z1, z2, z3, z4, z5, z6, z7⟩ := rcell8 hz; have f0 := SatL.free (hz : SatL _ (cl c2 _ _ :: _)) 0; have f1 := SatL.free (hz : SatL _ (cl c2 _ _ :: _)) 1; have f2 := SatL.free (hz : SatL _ (cl c2 _ _ :: _)) 2; have f3 := SatL.free (hz : SatL _ (cl c2 _ _ :: _)) 3; have f4 := SatL.free (hz : SatL _ (cl c2 _ _ :: _)) 4; have f5 := SatL.free (hz : SatL _ (cl c2 _ _ :: _)) 5; have f6 := SatL.free (hz : SatL _ (cl c2 _ _ :: _)) 6; have f7 := SatL.free (hz : SatL _ (cl c2 _ _ :: _)) 7; have hW := rsetz_sat hz; have HW := hid hW; clear hz hW))
            have hW := HW.out
            generalize ((((((((w19.setCell ⟨c2, 0, none⟩ (.int .u32 0)).setCell ⟨c2, 1, none⟩ (.int .u32 0)).setCell ⟨c2, 2, none⟩ (.int .u32 0)).setCell ⟨c2, 3, none⟩ (.int .u32 0)).setCell ⟨c2, 4, none⟩ (.int .u32 0)).setCell ⟨c2, 5, none⟩ (.int .u32 0)).setCell ⟨c2, 6, none⟩ (.slice none 0 0)).setCell ⟨c2, 7, none⟩ (.slice none 0 0)) = W3 at hW ⊢
            obtain ⟨r0, r1, r2, r3, r4, r5, r6, r7⟩ := rcell8 hW
            refine bodyPost_ret (v := .tuple #[noCall, .int .i64 36, .slice qa m qc]) (by simp [results, Tryd.results30, go_sem, r0, r1, r2, r3, r4, r5, r6, r7]) rfl (Ret.mk ?_)
            rw [Hq2.out]
            exact ⟨.slice qa m qc, rfl, SatL.tail (SatL.tail (SatL.tail (SatL.tail (SatL.tail (SatL.tail (SatL.tail (hW.bring [0, 2, 3, 4, 5, 6, 7, 1])))))))⟩
          · have t5 : ¬ (21 : Int) < PO := by omega
            have t6 : ¬ 21 < PO := ho
            have hk := hid (show knownL PR VR PO = (0, []) by unfold knownL; rw [if_pos (.inr hp3), if_neg (by omega), if_neg (by rw [if_neg hp5]; exact ho)])
            clear hp3 hp5 hv ho
            go_wp2_with fail
            go_meet
            exact ⟨hk, rfl⟩
        · have t4 : ((VR : Int) != 3) = true := by simp; omega
          have hk : knownL PR VR PO = (35, [2, 3, 3]) := by unfold knownL; rw [if_pos (.inr hp3), if_pos hv]
          clear hp3 hp5 hv
          have hq6 : readL b = .bad 35 (be4 [XI, 1, 0, 0, 0, 2, 3, 3]) := by rw [Hq5.out, hk, if_pos (show ((35 : Int), [2, 3, 3]).1 ≠ 0 by decide)]; rfl
          obtain ⟨bn, hbn⟩ : ∃ bn, be4 [XI, 1, 0, 0, 0, 2, 3, 3] = bn := ⟨_, rfl⟩
          rw [hbn] at hq6
          have Hq2 := hid hq6
          have hal := h20.alloc (.cells #[.int .u32 2, .int .u32 3, .int .u32 3] 22)
          have hul : ∀ u ∈ [XI, 1, 0, 0, 0, 2, 3, 3], u < 4294967296 := by intro u hu; have := Hu5.out; simp at hu; omega
          have Hul := hid hul
          have Hal := hid hal
          have hK := Sl.toK (n := 5) hal.swap (by simp)
          have hx := SrcOk.ofCl (k := 1) (n := 3) elem_u32.under hal rfl 3
          have Hbn := hid hbn
          clear hq6 hbn hk hul hal Hq5
          go_wp2_with (first
            | (at_builtin; refine wpList_append_sl (w := wh.alloc (.cells #[.int .u32 2, .int .u32 3, .int .u32 3] 22)) rfl (.tmp 127) (.tmp 128) rfl elem_u32 rfl hK rfl hx (by simp [Value.oneCell']) (by omega) (by unfold maxLen; omega) ?_; intro v18 w18 h18 _; have h18a : SatL w18 (Sl 22 v18 ([XI, 1, 0, 0, 0, 2, 3, 3].map u32v) :: _) := Sl.ofK h18; obtain ⟨va, vc, rfl, _, _⟩ := Sl.valn h18a (m := 8) rfl; have kw := row_ok (us := [XI, 1, 0, 0, 0, 2, 3, 3]) Hul.out (by simp) h18a (fun w' h' => SlW.rd h'); rw [Hbn.out] at kw)
            | (go_at_call 54; (with_reducible refine kw.mono ?_); rintro e w19 ⟨q, rfl, h19⟩; obtain ⟨m, hm⟩ : ∃ m, (bvs bn).length = m := ⟨_, rfl⟩; obtain ⟨qa, qc, rfl, _, _⟩ := Sl.valn h19 (m := m) hm; clear hm; have hz : SatL w19 (cl c2 64 #[.int .u32 0, .int .u32 0, .int .u32 0, .int .u32 0, .int .u32 0, .int .u32 0, .slice none 0 0, .slice none 0 0] :: _) := h19.pull 7; obtain ⟨z0, z1, z2, z3, z4, z5, z6, z7⟩ := rcell8 hz; have f0 := SatL.free (hz : SatL _ (cl c2 _ _ :: _)) 0; have f1 := SatL.free (hz : SatL _ (cl c2 _ _ :: _)) 1; have f2 := SatL.free (hz : SatL _ (cl c2 _ _ :: _)) 2; have f3 := SatL.free (hz : SatL _ (cl c2 _ _ :: _)) 3; have f4 := SatL.free (hz : SatL _ (cl c2 _ _ :: _)) 4; have f5 := SatL.free (hz : SatL _ (cl c2 _ _ :: _)) 5; have f6 := SatL.free (hz : SatL _ (cl c2 _ _ :: _)) 6; have f7 := SatL.free (hz : SatL _ (cl c2 _ _ :: _)) 7; have hW := rsetz_sat hz; have HW := hid hW; clear hz hW))
          have hW := HW.out
          generalize ((((((((w19.setCell ⟨c2, 0, none⟩ (.int .u32 0)).setCell ⟨c2, 1, none⟩ (.int .u32 0)).setCell ⟨c2, 2, none⟩ (.int .u32 0)).setCell ⟨c2, 3, none⟩ (.int .u32 0)).setCell ⟨c2, 4, none⟩ (.int .u32 0)).setCell ⟨c2, 5, none⟩ (.int .u32 0)).setCell ⟨c2, 6, none⟩ (.slice none 0 0)).setCell ⟨c2, 7, none⟩ (.slice none 0 0)) = W3 at hW ⊢
          obtain ⟨r0, r1, r2, r3, r4, r5, r6, r7⟩ := rcell8 hW
          refine bodyPost_ret (v := .tuple #[noCall, .int .i64 35, .slice qa m qc]) (by simp [results, Tryd.results30, go_sem, r0, r1, r2, r3, r4, r5, r6, r7]) rfl (Ret.mk ?_)
          rw [Hq2.out]
          exact ⟨.slice qa m qc, rfl, SatL.tail (SatL.tail (SatL.tail (SatL.tail (SatL.tail (SatL.tail (SatL.tail (hW.bring [0, 2, 3, 4, 5, 6, 7, 1])))))))⟩
      · have t1 : ((PR : Int) != 100003) = true := by simp; omega
        by_cases hp5 : PR = 100005
        · have t2 : ((PR : Int) != 100005) = false := by simp [hp5]
          have t3 : ((PR : Int) == 100005) = true := by simp [hp5]
          by_cases hv : VR = 3
          · have t4 : ((VR : Int) != 3) = false := by simp [hv]
            by_cases ho : 21 < PO
            · have t5 : (21 : Int) < PO := by omega
              have hk : knownL PR VR PO = (36, [3]) := by unfold knownL; rw [if_pos (.inl hp5), if_neg (by omega), if_pos (by rw [if_pos hp5]; omega)]
              clear hp3 hp5 hv ho
              have hq6 : readL b = .bad 36 (be4 [XI, 1, 0, 0, 0, 3]) := by rw [Hq5.out, hk, if_pos (show ((36 : Int), [3]).1 ≠ 0 by decide)]; rfl
              obtain ⟨bn, hbn⟩ : ∃ bn, be4 [XI, 1, 0, 0, 0, 3] = bn := ⟨_, rfl⟩
              rw [hbn] at hq6
              have Hq2 := hid hq6
              have hal := h20.alloc (.cells #[.int .u32 3] 22)
              have hul : ∀ u ∈ [XI, 1, 0, 0, 0, 3], u < 4294967296 := by intro u hu; have := Hu5.out; simp at hu; omega
              have Hul := hid hul
              have Hal := hid hal
              have hK := Sl.toK (n := 5) hal.swap (by simp)
              have hx := SrcOk.ofCl (k := 1) (n := 1) elem_u32.under hal rfl 1
              have Hbn := hid hbn
              clear hq6 hbn hk hul hal Hq5
              go_wp2_with (first
                | (at_builtin; refine wpList_append_sl (w := wh.alloc (.cells #[.int .u32 3] 22)) rfl (.tmp 146) (.tmp 147) rfl elem_u32 rfl hK rfl hx (by simp [Value.oneCell']) (by omega) (by unfold maxLen; omega) ?_; intro v18 w18 h18 _; have h18a : SatL w18 (Sl 22 v18 ([XI, 1, 0, 0, 0, 3].map u32v) :: _) := Sl.ofK h18; obtain ⟨va, vc, rfl, _, _⟩ := Sl.valn h18a (m := 6) rfl; have kw := row_ok (us := [XI, 1, 0, 0, 0, 3]) Hul.out (by simp) h18a (fun w' h' => SlW.rd h'); rw [Hbn.out] at kw)
                | (go_at_call 54; (with_reducible refine kw.mono ?_); rintro e w19 ⟨q, rfl, h19⟩; obtain ⟨m, hm⟩ : ∃ m, (bvs bn).length = m := ⟨_, rfl⟩; obtain ⟨qa, qc, rfl, _, _⟩ := Sl.valn h19 (m := m) hm; clear hm; have hz : SatL w19 (cl c2 64 #[.int .u32 0, .int .u32 0, .int .u32 0, .int .u32 0, .int .u32 0, .int .u32 0, .slice none 0 0, .slice none 0 0] :: _) := h19.pull 7; obtain ⟨z0, z1, z2, z3, z4, z5, z6, z7⟩ := rcell8 hz; have f0 := SatL.free (hz : SatL _ (cl c2 _ _ :: _)) 0; have f1 := SatL.free (hz : SatL _ (cl c2 _ _ :: _)) 1; have f2 := SatL.free (hz : SatL _ (cl c2 _ _ :: _)) 2; have f3 := SatL.free (hz : SatL _ (cl c2 _ _ :: _)) 3; have f4 := SatL.free (hz : SatL _ (cl c2 _ _ :: _)) 4; have f5 := SatL.free (hz : SatL _ (cl c2 _ _ :: _)) 5; have f6 := SatL.free (hz : SatL _ (cl c2 _ _ :: _)) 6; have f7 := SatL.free (hz : SatL _ (cl c2 _ _ :: _)) 7; have hW := rsetz_sat hz; have HW := hid hW; clear hz hW))
              have hW := HW.out
              generalize ((((((((w19.setCell ⟨c2, 0, none⟩ (.int .u32 0)).setCell ⟨c2, 1, none⟩ (.int .u32 0)).setCell ⟨c2, 2, none⟩ (.int .u32 0)).setCell ⟨c2, 3, none⟩ (.int .u32 0)).setCell ⟨c2, 4, none⟩ (.int .u32 0)).setCell ⟨c2, 5, none⟩ (.int .u32 0)).setCell ⟨c2, 6, none⟩ (.slice none 0 0)).setCell ⟨c2, 7, none⟩ (.slice none 0 0)) = W3 at hW ⊢
              obtain ⟨r0, r1, r2, r3, r4, r5, r6, r7⟩ := rcell8 hW
              refine bodyPost_ret (v := .tuple #[noCall, .int .i64 36, .slice qa m qc]) (by simp [results, Tryd.results30, go_sem, r0, r1, r2, r3, r4, r5, r6, r7]) rfl (Ret.mk ?_)
              rw [Hq2.out]
              exact ⟨.slice qa m qc, rfl, SatL.tail (SatL.tail (SatL.tail (SatL.tail (SatL.tail (SatL.tail (SatL.tail (hW.bring [0, 2, 3, 4, 5, 6, 7, 1])))))))⟩
            · have t5 : ¬ (21 : Int) < PO := by omega
              by_cases ho5 : 5 < PO
              · have t6 : (5 : Int) < PO := by omega
                have hk : knownL PR VR PO = (36, [3]) := by unfold knownL; rw [if_pos (.inl hp5), if_neg (by omega), if_pos (by rw [if_pos hp5]; exact ho5)]
                clear hp3 hp5 hv ho ho5
                have hq6 : readL b = .bad 36 (be4 [XI, 1, 0, 0, 0, 3]) := by rw [Hq5.out, hk, if_pos (show ((36 : Int), [3]).1 ≠ 0 by decide)]; rfl
                obtain ⟨bn, hbn⟩ : ∃ bn, be4 [XI, 1, 0, 0, 0, 3] = bn := ⟨_, rfl⟩
                rw [hbn] at hq6
                have Hq2 := hid hq6
                have hal := h20.alloc (.cells #[.int .u32 3] 22)
                have hul : ∀ u ∈ [XI, 1, 0, 0, 0, 3], u < 4294967296 := by intro u hu; have := Hu5.out; simp at hu; omega
                have Hul := hid hul
                have Hal := hid hal
                have hK := Sl.toK (n := 5) hal.swap (by simp)
                have hx := SrcOk.ofCl (k := 1) (n := 1) elem_u32.under hal rfl 1
                have Hbn := hid hbn
                clear hq6 hbn hk hul hal Hq5
                go_wp2_with (first
                  | (at_builtin; refine wpList_append_sl (w := wh.alloc (.cells #[.int .u32 3] 22)) rfl (.tmp 146) (.tmp 147) rfl elem_u32 rfl hK rfl hx (by simp [Value.oneCell']) (by omega) (by unfold maxLen; omega) ?_; intro v18 w18 h18 _; have h18a : SatL w18 (Sl 22 v18 ([XI, 1, 0, 0, 0, 3].map u32v) :: _) := Sl.ofK h18; obtain ⟨va, vc, rfl, _, _⟩ := Sl.valn h18a (m := 6) rfl; have kw := row_ok (us := [XI, 1, 0, 0, 0, 3]) Hul.out (by simp) h18a (fun w' h' => SlW.rd h'); rw [Hbn.out] at kw)
                  | (go_at_call 54; (with_reducible refine kw.mono ?_); rintro e w19 ⟨q, rfl, h19⟩; obtain ⟨m, hm⟩ : ∃ m, (bvs bn).length = m := ⟨_, rfl⟩; obtain ⟨qa, qc, rfl, _, _⟩ := Sl.valn h19 (m := m) hm; clear hm; have hz : SatL w19 (cl c2 64 #[.int .u32 0, .int .u32 0, .int .u32 0, .int .u32 0, .int .u32 0, .int .u32 0, .slice none 0 0, .slice none 0 0] :: _) := h19.pull 7; obtain ⟨z0, z1, z2, z3, z4, z5, z6, z7⟩ := rcell8 hz; have f0 := SatL.free (hz : SatL _ (cl c2 _ _ :: _)) 0; have f1 := SatL.free (hz : SatL _ (cl c2 _ _ :: _)) 1; have f2 := SatL.free (hz : SatL _ (cl c2 _ _ :: _)) 2; have f3 := SatL.free (hz : SatL _ (cl c2 _ _ :: _)) 3; have f4 := SatL.free (hz : SatL _ (cl c2 _ _ :: _)) 4; have f5 := SatL.free (hz : SatL _ (cl c2 _ _ :: _)) 5; have f6 := SatL.free (hz : SatL _ (cl c2 _ _ :: _)) 6; have f7 := SatL.free (hz : SatL _ (cl c2 _ _ :: _)) 7; have hW := rsetz_sat hz; have HW := hid hW; clear hz hW))
                have hW := HW.out
                generalize ((((((((w19.setCell ⟨c2, 0, none⟩ (.int .u32 0)).setCell ⟨c2, 1, none⟩ (.int .u32 0)).setCell ⟨c2, 2, none⟩ (.int .u32 0)).setCell ⟨c2, 3, none⟩ (.int .u32 0)).setCell ⟨c2, 4, none⟩ (.int .u32 0)).setCell ⟨c2, 5, none⟩ (.int .u32 0)).setCell ⟨c2, 6, none⟩ (.slice none 0 0)).setCell ⟨c2, 7, none⟩ (.slice none 0 0)) = W3 at hW ⊢
                obtain ⟨r0, r1, r2, r3, r4, r5, r6, r7⟩ := rcell8 hW
                refine bodyPost_ret (v := .tuple #[noCall, .int .i64 36, .slice qa m qc]) (by simp [results, Tryd.results30, go_sem, r0, r1, r2, r3, r4, r5, r6, r7]) rfl (Ret.mk ?_)
                rw [Hq2.out]
                exact ⟨.slice qa m qc, rfl, SatL.tail (SatL.tail (SatL.tail (SatL.tail (SatL.tail (SatL.tail (SatL.tail (hW.bring [0, 2, 3, 4, 5, 6, 7, 1])))))))⟩
              · have t6 : ¬ (5 : Int) < PO := by omega
                have t7 : ¬ 5 < PO := ho5
                have hk := hid (show knownL PR VR PO = (0, []) by unfold knownL; rw [if_pos (.inl hp5), if_neg (by omega), if_neg (by rw [if_pos hp5]; exact ho5)])
                clear hp3 hp5 hv ho ho5
                go_wp2_with fail
                go_meet
                exact ⟨hk, rfl⟩
          · have t4 : ((VR : Int) != 3) = true := by simp; omega
            have hk : knownL PR VR PO = (35, [2, 3, 3]) := by unfold knownL; rw [if_pos (.inl hp5), if_pos hv]
            clear hp3 hp5 hv
            have hq6 : readL b = .bad 35 (be4 [XI, 1, 0, 0, 0, 2, 3, 3]) := by rw [Hq5.out, hk, if_pos (show ((35 : Int), [2, 3, 3]).1 ≠ 0 by decide)]; rfl
            obtain ⟨bn, hbn⟩ : ∃ bn, be4 [XI, 1, 0, 0, 0, 2, 3, 3] = bn := ⟨_, rfl⟩
            rw [hbn] at hq6
            have Hq2 := hid hq6
            have hal := h20.alloc (.cells #[.int .u32 2, .int .u32 3, .int .u32 3] 22)
            have hul : ∀ u ∈ [XI, 1, 0, 0, 0, 2, 3, 3], u < 4294967296 := by intro u hu; have := Hu5.out; simp at hu; omega
            have Hul := hid hul
            have Hal := hid hal
            have hK := Sl.toK (n := 5) hal.swap (by simp)
            have hx := SrcOk.ofCl (k := 1) (n := 3) elem_u32.under hal rfl 3
            have Hbn := hid hbn
            clear hq6 hbn hk hul hal Hq5
            go_wp2_with (first
              | (at_builtin; refine wpList_append_sl (w := wh.alloc (.cells #[.int .u32 2, .int .u32 3, .int .u32 3] 22)) rfl (.tmp 127) (.tmp 128) rfl elem_u32 rfl hK rfl hx (by simp [Value.oneCell']) (by omega) (by unfold maxLen; omega) ?_; intro v18 w18 h18 _; have h18a : SatL w18 (Sl 22 v18 ([XI, 1, 0, 0, 0, 2, 3, 3].map u32v) :: _) := Sl.ofK h18; obtain ⟨va, vc, rfl, _, _⟩ := Sl.valn h18a (m := 8) rfl; have kw := row_ok (us := [XI, 1, 0, 0, 0, 2, 3, 3]) Hul.out (by simp) h18a (fun w' h' => SlW.rd h'); rw [Hbn.out] at kw)
              | (go_at_call 54; (with_reducible refine kw.mono ?_); rintro e w19 ⟨q, rfl, h19⟩; obtain ⟨m, hm⟩ : ∃ m, (bvs bn).length = m := ⟨_, rfl⟩; obtain ⟨qa, qc, rfl, _, _⟩ := Sl.valn h19 (m := m) hm; clear hm; have hz : SatL w19 (cl c2 64 #[.int .u32 0, .int .u32 0, .int .u32 0, .int .u32 0, .int .u32 0, .int .u32 0, .slice none 0 0, .slice none 0 0] :: _) := h19.pull 7; obtain ⟨z0, z1, z2, z3, z4, z5, z6, z7⟩ := rcell8 hz; have f0 := SatL.free (hz : SatL _ (cl c2 _ _ :: _)) 0; have f1 := SatL.free (hz : SatL _ (cl c2 _ _ :: _)) 1; have f2 := SatL.free (hz : SatL _ (cl c2 _ _ :: _)) 2; have f3 := SatL.free (hz : SatL _ (cl c2 _ _ :: _)) 3; have f4 := SatL.free (hz : SatL _ (cl c2 _ _ :: _)) 4; have f5 := SatL.free (hz : SatL _ (cl c2 _ _ :: _)) 5; have f6 := SatL.free (hz : SatL _ (cl c2 _ _ :: _)) 6; have f7 := SatL.free (hz : SatL _ (cl c2 _ _ :: _)) 7; have hW := rsetz_sat hz; have HW := hid hW; clear hz hW))
            have hW := HW.out
            generalize ((((((((w19.setCell ⟨c2, 0, none⟩ (.int .u32 0)).setCell ⟨c2, 1, none⟩ (.int .u32 0)).setCell ⟨c2, 2, none⟩ (.int .u32 0)).setCell ⟨c2, 3, none⟩ (.int .u32 0)).setCell ⟨c2, 4, none⟩ (.int .u32 0)).setCell ⟨c2, 5, none⟩ (.int .u32 0)).setCell ⟨c2, 6, none⟩ (.slice none 0 0)).setCell ⟨c2, 7, none⟩ (.slice none 0 0)) = W3 at hW ⊢
            obtain ⟨r0, r1, r2, r3, r4, r5, r6, r7⟩ := rcell8 hW
            refine bodyPost_ret (v := .tuple #[noCall, .int .i64 35, .slice qa m qc]) (by simp [results, Tryd.results30, go_sem, r0, r1, r2, r3, r4, r5, r6, r7]) rfl (Ret.mk ?_)
            rw [Hq2.out]
            exact ⟨.slice qa m qc, rfl, SatL.tail (SatL.tail (SatL.tail (SatL.tail (SatL.tail (SatL.tail (SatL.tail (hW.bring [0, 2, 3, 4, 5, 6, 7, 1])))))))⟩
        · have t2 : ((PR : Int) != 100005) = true := by simp; omega
          have hk : knownL PR VR PO = (34, [1]) := by unfold knownL; rw [if_neg (by omega)]
          clear hp3 hp5
          have hq6 : readL b = .bad 34 (be4 [XI, 1, 0, 0, 0, 1]) := by rw [Hq5.out, hk, if_pos (show ((34 : Int), [1]).1 ≠ 0 by decide)]; rfl
          obtain ⟨bn, hbn⟩ : ∃ bn, be4 [XI, 1, 0, 0, 0, 1] = bn := ⟨_, rfl⟩
          rw [hbn] at hq6
          have Hq2 := hid hq6
          have hal := h20.alloc (.cells #[.int .u32 1] 22)
          have hul : ∀ u ∈ [XI, 1, 0, 0, 0, 1], u < 4294967296 := by intro u hu; have := Hu5.out; simp at hu; omega
          have Hul := hid hul
          have Hal := hid hal
          have hK := Sl.toK (n := 5) hal.swap (by simp)
          have hx := SrcOk.ofCl (k := 1) (n := 1) elem_u32.under hal rfl 1
          have Hbn := hid hbn
          clear hq6 hbn hk hul hal Hq5
          go_wp2_with (first
            | (at_builtin; refine wpList_append_sl (w := wh.alloc (.cells #[.int .u32 1] 22)) rfl (.tmp 118) (.tmp 119) rfl elem_u32 rfl hK rfl hx (by simp [Value.oneCell']) (by omega) (by unfold maxLen; omega) ?_; intro v18 w18 h18 _; have h18a : SatL w18 (Sl 22 v18 ([XI, 1, 0, 0, 0, 1].map u32v) :: _) := Sl.ofK h18; obtain ⟨va, vc, rfl, _, _⟩ := Sl.valn h18a (m := 6) rfl; have kw := row_ok (us := [XI, 1, 0, 0, 0, 1]) Hul.out (by simp) h18a (fun w' h' => SlW.rd h'); rw [Hbn.out] at kw)
            | (go_at_call 54; (with_reducible refine kw.mono ?_); rintro e w19 ⟨q, rfl, h19⟩; obtain ⟨m, hm⟩ : ∃ m, (bvs bn).length = m := ⟨_, rfl⟩; obtain ⟨qa, qc, rfl, _, _⟩ := Sl.valn h19 (m := m) hm; clear hm; have hz : SatL w19 (cl c2 64 #[.int .u32 0, .int .u32 0, .int .u32 0, .int .u32 0, .int .u32 0, .int .u32 0, .slice none 0 0, .slice none 0 0] :: _) := h19.pull 7; obtain ⟨z0, z1, z2, z3, z4, z5, z6, z7⟩ := rcell8 hz; have f0 := SatL.free (hz : SatL _ (cl c2 _ _ :: _)) 0; have f1 := SatL.free (hz : SatL _ (cl c2 _ _ :: _)) 1; have f2 := SatL.free (hz : SatL _ (cl c2 _ _ :: _)) 2; have f3 := SatL.free (hz : SatL _ (cl c2 _ _ :: _)) 3; have f4 := SatL.free (hz : SatL _ (cl c2 _ _ :: _)) 4; have f5 := SatL.free (hz : SatL _ (cl c2 _ _ :: _)) 5; have f6 := SatL.free (hz : SatL _ (cl c2 _ _ :: _)) 6; have f7 := SatL.free (hz : SatL _ (cl c2 _ _ :: _)) 7; have hW := rsetz_sat hz; have HW := hid hW; clear hz hW))
          have hW := HW.out
          generalize ((((((((w19.setCell ⟨c2, 0, none⟩ (.int .u32 0)).setCell ⟨c2, 1, none⟩ (.int .u32 0)).setCell ⟨c2, 2, none⟩ (.int .u32 0)).setCell ⟨c2, 3, none⟩ (.int .u32 0)).setCell ⟨c2, 4, none⟩ (.int .u32 0)).setCell ⟨c2, 5, none⟩ (.int .u32 0)).setCell ⟨c2, 6, none⟩ (.slice none 0 0)).setCell ⟨c2, 7, none⟩ (.slice none 0 0)) = W3 at hW ⊢
          obtain ⟨r0, r1, r2, r3, r4, r5, r6, r7⟩ := rcell8 hW
          refine bodyPost_ret (v := .tuple #[noCall, .int .i64 34, .slice qa m qc]) (by simp [results, Tryd.results30, go_sem, r0, r1, r2, r3, r4, r5, r6, r7]) rfl (Ret.mk ?_)
          rw [Hq2.out]
          exact ⟨.slice qa m qc, rfl, SatL.tail (SatL.tail (SatL.tail (SatL.tail (SatL.tail (SatL.tail (SatL.tail (hW.bring [0, 2, 3, 4, 5, 6, 7, 1])))))))⟩
    case rest =>
    obtain ⟨hk, hwe⟩ := hcut
    rw [hwe]
    clear hwe
    have hq6 : readL b = .good ⟨XI, PR, VR, PO, UI, GI, GS, b.drop (rd10 b).p⟩ := by rw [Hq5.out, hk.out]; rfl
    have Hq6 := hid hq6
    obtain ⟨gn, hgn⟩ : ∃ gn, GS.length = gn := ⟨_, rfl⟩
    obtain ⟨ga, gc, rfl, _, _⟩ := Sl.valn (h20.pull 3) (m := gn) (by rw [List.length_map]; exact hgn)
    have h21 := h20.tail.tail
    obtain ⟨ok11, h22⟩ := sat_RrR.1 h21
    clear hgn h20 h21 x1 x2 x3 hq6 hk Hq5 Hu5 t0 te tk tv he hE11
    obtain ⟨pp, hpp⟩ : ∃ pp, (rd10 b).p = pp := ⟨_, rfl⟩
    rw [hpp] at h22 Hq6
    have hpb : pp ≤ b.length := by have h := ok11.1; rw [Hb10.out, hpp] at h; exact h
    obtain ⟨vs, hsl, hrs⟩ := (Gg.out wh h22.tail.tail.tail.tail).fr hpb
    obtain ⟨D, hD⟩ : ∃ D, b.drop pp = D := ⟨_, rfl⟩
    obtain ⟨dn, hdn⟩ : ∃ dn, D.length = dn := ⟨_, rfl⟩
    have hdl : dn ≤ 10000000 := by rw [← hdn, ← hD, List.length_drop]; omega
    rw [hD] at hrs Hq6
    have Hrs := hid hrs
    have Hdn := hid hdn
    clear hrs hdn hD hpp
    go_upto_region 41 with fail
    refine GoE.start (fun w' => w'.cell? ⟨c6, 7, none⟩ = some (.slice none 0 0) ∧ w'.cell? ⟨r0, 1, none⟩ = some (.int .i64 (pp : Int))) 10 11 rfl (by kernel_rfl) ?_
    have hd := sat_drew.2 h22
    generalize wh.drew = w5 at hd ⊢
    have S0 : w5.cell? ⟨c6, 7, none⟩ = some (.slice none 0 0) ∧ w5.cell? ⟨r0, 1, none⟩ = some (.int .i64 (pp : Int)) := ⟨SatL.cell (hd.pull 2 : SatL w5 (cl c6 _ _ :: _)) (i := 7) rfl, SatL.cell (hd : SatL w5 (cl r0 _ _ :: _)) (i := 1) rfl⟩
    have hrv := Hrs.out w5 (Gg.out w5 hd.tail.tail.tail.tail)
    have hx := SrcOk.ofRdV hrv
    rw [Hdn.out] at hx
    have hK := Sl.toK (n := 0) (Sl_nil (T := 5) hd) rfl
    have hbb : (0 + dn) * 1 ≤ 140737488355328 := by omega
    have h63 : 0 + dn ≤ maxLen := by unfold maxLen; omega
    clear h22 hrv hd
    refine GoE.take (i := 0) (v := ?_) rfl (by decide) (by kernel_rfl) (by kernel_rfl) (by kernel_rfl) (by kernel_rfl) (fun _ _ _ h => h) (by rfl) ?_ (by assumption) ?_
    rotate_left
    · intro w hSw; (try dsimp only at hSw); go_simp; try (with_reducible rfl)
    try simp only [Act.put, List.setIfInBounds_toArray, List.set_cons_zero, List.set_cons_succ]
    refine GoE.take (i := 1) (v := ?_) rfl (by decide) (by kernel_rfl) (by kernel_rfl) (by kernel_rfl) (by kernel_rfl) (fun _ _ _ h => h) (by rfl) ?_ (by assumption) ?_
    rotate_left
    · intro w hSw; (try dsimp only at hSw); go_simp; try (with_reducible rfl)
    try simp only [Act.put, List.setIfInBounds_toArray, List.set_cons_zero, List.set_cons_succ]
    refine GoE.take (i := 2) (v := ?_) rfl (by decide) (by kernel_rfl) (by kernel_rfl) (by kernel_rfl) (by kernel_rfl) (fun _ _ _ h => h) (by rfl) ?_ (by assumption) ?_
    rotate_left
    · intro w hSw; (try dsimp only at hSw); go_simp; try (with_reducible rfl)
    try simp only [Act.put, List.setIfInBounds_toArray, List.set_cons_zero, List.set_cons_succ]
    refine GoE.take (i := 3) (v := ?_) rfl (by decide) (by kernel_rfl) (by kernel_rfl) (by kernel_rfl) (by kernel_rfl) (fun _ _ _ h => h) (by rfl) ?_ (by assumption) ?_
    rotate_left
    · intro w hSw; (try dsimp only at hSw); go_simp; try (with_reducible rfl)
    try simp only [Act.put, List.setIfInBounds_toArray, List.set_cons_zero, List.set_cons_succ]
    refine GoE.take (i := 4) (v := ?_) rfl (by decide) (by kernel_rfl) (by kernel_rfl) (by kernel_rfl) (by kernel_rfl) (fun _ _ _ h => h) (by rfl) ?_ (by assumption) ?_
    rotate_left
    · intro w hSw; (try dsimp only at hSw); go_simp; try (with_reducible rfl)
    try simp only [Act.put, List.setIfInBounds_toArray, List.set_cons_zero, List.set_cons_succ]
    refine GoE.take (i := 5) (v := ?_) rfl (by decide) (by kernel_rfl) (by kernel_rfl) (by kernel_rfl) (by kernel_rfl) (fun _ _ _ h => h) (by rfl) ?_ (by assumption) ?_
    rotate_left
    · intro w hSw; (try dsimp only at hSw); go_simp; try (with_reducible rfl)
    try simp only [Act.put, List.setIfInBounds_toArray, List.set_cons_zero, List.set_cons_succ]
    refine GoE.take (i := 6) (v := ?_) rfl (by decide) (by kernel_rfl) (by kernel_rfl) (by kernel_rfl) (by kernel_rfl) (fun _ _ _ h => h) (by rfl) ?_ (by assumption) ?_
    rotate_left
    · intro w hSw; (try dsimp only at hSw); go_simp; try (with_reducible rfl)
    try simp only [Act.put, List.setIfInBounds_toArray, List.set_cons_zero, List.set_cons_succ]
    refine GoE.take (i := 7) (v := ?_) rfl (by decide) (by kernel_rfl) (by kernel_rfl) (by kernel_rfl) (by kernel_rfl) (fun _ _ _ h => h) (by rfl) ?_ (by assumption) ?_
    rotate_left
    · intro w hSw; (try dsimp only at hSw); go_simp; try (with_reducible rfl)
    try simp only [Act.put, List.setIfInBounds_toArray, List.set_cons_zero, List.set_cons_succ]
    refine GoE.one (i := 8) rfl (by kernel_rfl) (fun K hKK => ?_)
    refine step_append_sl rfl (.tmp 151) (.tmp 157) rfl elem_byte rfl hK rfl hx (bvs_one _) hbb h63 ?_
    intro v6 w6 h10 _
    have h11 := Sl.ofK h10
    rw [List.nil_append] at h11
    obtain ⟨na, nc, rfl, _, _⟩ := Sl.valn h11 (m := dn) (by rw [bvs_len]; exact Hdn.out)
    have S1 : w6.cell? ⟨c6, 7, none⟩ = some (.slice none 0 0) ∧ w6.cell? ⟨r0, 1, none⟩ = some (.int .i64 (pp : Int)) := ⟨SatL.cell (h11.pull 3 : SatL w6 (cl c6 _ _ :: _)) (i := 7) rfl, SatL.cell (h11.pull 1 : SatL w6 (cl r0 _ _ :: _)) (i := 1) rfl⟩
    refine hKK.out _ _ (fun _ => S1) ?_
    clear hKK K S0 hK hx h10
    try simp only [Act.put, List.setIfInBounds_toArray, List.set_cons_zero, List.set_cons_succ]
    refine GoE.take (i := 9) (v := ?_) rfl (by decide) (by kernel_rfl) (by kernel_rfl) (by kernel_rfl) (by kernel_rfl) (fun _ _ _ h => h) (by rfl) ?_ (by assumption) ?_
    rotate_left
    · intro w hSw; (try dsimp only at hSw); go_simp; try (with_reducible rfl)
    try simp only [Act.put, List.setIfInBounds_toArray, List.set_cons_zero, List.set_cons_succ]
    have h12 : SatL w6 (cl c6 _ _ :: _) := h11.pull 3
    have f1 := SatL.free h12 7
    have c1 := S1.1
    have h13 := SatL.set h12 (i := 7) (.slice na dn nc)
    have H13 := hid h13
    clear h13 h12 S1
    refine GoE.one (i := 10) rfl (by kernel_rfl) (fun K hK => ?_)
    go_simp
    refine hK.out _ _ (fun h => absurd rfl h) ?_
    clear hK K
    try simp only [Act.put, List.setIfInBounds_toArray, List.set_cons_zero, List.set_cons_succ]
    refine GoE.done (by kernel_rfl) ?_
    clear f1 c1
    generalize w6.setCell ⟨c6, 7, none⟩ (.slice na dn nc) = w7 at H13 ⊢
    have h14 : SatL w7 (cl c6 64 #[.int .u32 (XI : Int), .int .u32 (PR : Int), .int .u32 (VR : Int), .int .u32 (PO : Int), .int .u32 (UI : Int), .int .u32 (GI : Int), .slice ga gn gc, .slice na dn nc] :: SlB 5 (.slice na dn nc) D :: cl r0 _ _ :: Sl 22 (.slice ga gn gc) (GS.map u32v) :: cl c2 64 #[.int .u32 0, .int .u32 0, .int .u32 0, .int .u32 0, .int .u32 0, .int .u32 0, .slice none 0 0, .slice none 0 0] :: L) := H13.out
    obtain ⟨x0, x1, x2, x3, x4, x5, x6, x7⟩ := rcell8 h14
    have hz : SatL w7 (cl c2 64 #[.int .u32 0, .int .u32 0, .int .u32 0, .int .u32 0, .int .u32 0, .int .u32 0, .slice none 0 0, .slice none 0 0] :: _) := h14.pull 4
    obtain ⟨z0, z1, z2, z3, z4, z5, z6, z7⟩ := rcell8 hz
    have f0 := SatL.free (hz : SatL _ (cl c2 _ _ :: _)) 0
    have f1 := SatL.free (hz : SatL _ (cl c2 _ _ :: _)) 1
    have f2 := SatL.free (hz : SatL _ (cl c2 _ _ :: _)) 2
    have f3 := SatL.free (hz : SatL _ (cl c2 _ _ :: _)) 3
    have f4 := SatL.free (hz : SatL _ (cl c2 _ _ :: _)) 4
    have f5 := SatL.free (hz : SatL _ (cl c2 _ _ :: _)) 5
    have f6 := SatL.free (hz : SatL _ (cl c2 _ _ :: _)) 6
    have f7 := SatL.free (hz : SatL _ (cl c2 _ _ :: _)) 7
    have HW := hid (rset8_sat hz (.int .u32 (XI : Int)) (.int .u32 (PR : Int)) (.int .u32 (VR : Int)) (.int .u32 (PO : Int)) (.int .u32 (UI : Int)) (.int .u32 (GI : Int)) (.slice ga gn gc) (.slice na dn nc))
    clear hz h14 h11 H13
    go_wp2_with fail
    have hW := HW.out
    generalize ((((((((w7.setCell ⟨c2, 0, none⟩ (.int .u32 (XI : Int))).setCell ⟨c2, 1, none⟩ (.int .u32 (PR : Int))).setCell ⟨c2, 2, none⟩ (.int .u32 (VR : Int))).setCell ⟨c2, 3, none⟩ (.int .u32 (PO : Int))).setCell ⟨c2, 4, none⟩ (.int .u32 (UI : Int))).setCell ⟨c2, 5, none⟩ (.int .u32 (GI : Int))).setCell ⟨c2, 6, none⟩ (.slice ga gn gc)).setCell ⟨c2, 7, none⟩ (.slice na dn nc)) = W3 at hW ⊢
    obtain ⟨r0, r1, r2, r3, r4, r5, r6, r7⟩ := rcell8 hW
    refine bodyPost_ret (v := .tuple #[.agg #[.int .u32 (XI : Int), .int .u32 (PR : Int), .int .u32 (VR : Int), .int .u32 (PO : Int), .int .u32 (UI : Int), .int .u32 (GI : Int), .slice ga gn gc, .slice na dn nc], .int .i64 0, .slice none 0 0]) (by simp [results, Tryd.results30, go_sem, r0, r1, r2, r3, r4, r5, r6, r7]) rfl (Ret.mk ?_)
    rw [Hq6.out]
    exact ⟨.slice ga gn gc, .slice na dn nc, rfl, SatL.tail (SatL.tail (SatL.tail (hW.bring [0, 1, 3, 4, 2])))⟩
end
end Go.Proofs.YtpecmkkcepnpeaaDoor
