/- rpc: errors.As at an error of rpc over owned memory, Parse. Condition: what is held gives errors.errorType's cell. -/
import Derived.Test.YtpecmkkcepnpeaaDoorRpcR
import Derived.Test.YtpecmkkcepnpeaaDoorAs
namespace Go.Proofs.YtpecmkkcepnpeaaDoor
set_option linter.unusedVariables false
set_option linter.unusedSimpArgs false
open Go.RowKit
/-- errors.errorType's cell -/
def HndW (w : World) : Prop := w.cell? ⟨0, 0, none⟩ = some (.iface 140 (.agg #[.pointer (some ⟨1, 32, none⟩)]))
section
variable {w : World} {L : List HP}
theorem as_ok {t e : Nat} {T : Nat} {o : Value} (hG : Gives L HndW) (h : SatL w (cl t T #[o] :: L)) :
    Calls Tryd.prog 20 #[.iface 53 (.pointer (some ⟨e, 0, none⟩)), .iface 55 (.pointer (some ⟨t, 0, none⟩))] w (Ret fun v w' => v = .bool true ∧ SatL w' (cl t T #[.pointer (some ⟨e, 0, none⟩)] :: L)) := by
  have c0 := SatL.cell (h : SatL w (cl _ _ _ :: _)) (i := 0) (v := o) rfl
  have f0 := SatL.free (h : SatL w (cl _ _ _ :: _)) 0
  have hit := as_hit ⟨e, 0, none⟩ ⟨t, 0, none⟩ o w (hG w h.tail) c0 f0
  refine hit.mono ?_
  rintro ev w' ⟨rfl, rfl⟩
  refine ⟨_, rfl, rfl, ?_⟩
  have h1 := (h.alloc (.cells #[.pointer (some ⟨t, 0, none⟩)] 55)).tail
  have h2 := (h1.alloc (.cells #[.pointer (some ⟨1, 55, none⟩), .pointer (some ⟨w.heap.size, 0, none⟩), .int .u64 150] 97)).tail
  have h3 := (h2.alloc (.cells #[.pointer (some ⟨1, 55, none⟩), .pointer (some ⟨w.heap.size, 0, none⟩), .int .u64 150] 97)).tail
  have h4 := (h3.alloc (.cells #[.pointer (some ⟨e, 0, none⟩)] 53)).tail
  exact SatL.set (h4 : SatL _ (cl _ _ _ :: _)) (i := 0) _
theorem asnil_ok {t : Value} (h : SatL w L) :
    Calls Tryd.prog 20 #[.nilIface, t] w (Ret fun v w' => v = .bool false ∧ w = w') := by
  refine (as_nil t w).mono ?_
  rintro ev w' ⟨rfl, rfl⟩
  exact ⟨_, rfl, rfl, rfl⟩
set_option maxRecDepth 100000 in
set_option maxHeartbeats 8000000 in
theorem parse_ok {v : Value} {b : List UInt8} (hb : b.length ≤ 10000000) (h : SatL w L) (g : Gives L (RdB v b)) (hG : Gives L HndW) :
    Calls Tryd.prog 14 #[v] w (Ret (ReadPost L (readL b))) := by
  obtain ⟨a, c, rfl, g1, g2⟩ := (g w h).valn
  have Ha := h.alloc (.cells #[.int .u32 0, .int .u32 0, .int .u32 0, .int .u32 0, .int .u32 0, .int .u32 0, .slice none 0 0, .slice none 0 0] 30)
  have kR := read_ok hb Ha (fun w' h' => g w' h'.tail)
  obtain ⟨c2, hc2⟩ : ∃ c2, c2 = w.heap.size := ⟨_, rfl⟩
  clear h Ha g
  cases hq : readL b with
  | bad e bs =>
    rw [hq] at kR
    have HG := hid hG
    clear hq hG
    go_enter Tryd.func14, Tryd.ntmps14
    go_upto_region 3 with (first
      | (go_at_call 37; (with_reducible refine kR.mono ?_); rintro ev w1 ⟨q, rfl, nb, rfl, h1⟩))
    have h2 := SatL.allocN (h1.alloc (.cells #[.int .u32 0, .int .u32 0, .int .u32 0, .int .u32 0, .int .u32 0, .int .u32 0, .slice none 0 0, .slice none 0 0] 30)) (.cells #[.pointer none] 53) (n := w1.heap.size + 1) (by simp)
    generalize (w1.alloc (.cells #[.int .u32 0, .int .u32 0, .int .u32 0, .int .u32 0, .int .u32 0, .int .u32 0, .slice none 0 0, .slice none 0 0] 30)).alloc (.cells #[.pointer none] 53) = w3 at h2 ⊢
    obtain ⟨c6, hc6⟩ : ∃ c6, c6 = w1.heap.size + 1 := ⟨_, rfl⟩
    rw [← hc6] at h2 ⊢
    rw [← hc2] at h2 ⊢
    generalize w1.heap.size = c4 at h2 ⊢
    have kA := as_ok (e := nb) (fun w' h' => HG.out w' (SatL.tail (SatL.tail (SatL.tail h')))) (h2 : SatL w3 (cl c6 53 #[.pointer none] :: _))
    clear h1 kR hc6 hc2
    go_upto_region 4 with (first
      | (go_at_call 20; (with_reducible refine kA.mono ?_); rintro ev w4 ⟨q, rfl, rfl, h4⟩))
    refine GoE.start (fun w' => w'.cell? ⟨c6, 0, none⟩ = some (.pointer (some ⟨nb, 0, none⟩))) 4 5 rfl (by kernel_rfl) ?_
    have hd := sat_drew.2 h4
    generalize w4.drew = w5 at hd ⊢
    have S0 := SatL.cell (hd : SatL w5 (cl c6 _ _ :: _)) (i := 0) (v := .pointer (some ⟨nb, 0, none⟩)) rfl
    refine GoE.take (i := 0) (v := ?_) rfl (by decide) (by kernel_rfl) (by kernel_rfl) (by kernel_rfl) (by kernel_rfl) (fun _ _ _ h => h) (by rfl) ?_ (by assumption) ?_
    rotate_left
    · intro w hSw; (try dsimp only at hSw); go_simp; try (with_reducible rfl)
    try simp only [Act.put, List.setIfInBounds_toArray, List.set_cons_zero, List.set_cons_succ]
    refine GoE.take (i := 1) (v := ?_) rfl (by decide) (by kernel_rfl) (by kernel_rfl) (by kernel_rfl) (by kernel_rfl) (fun _ _ _ h => h) (by rfl) ?_ (by assumption) ?_
    rotate_left
    · intro w hSw; (try dsimp only at hSw); go_simp; try (with_reducible rfl)
    try simp only [Act.put, List.setIfInBounds_toArray, List.set_cons_zero, List.set_cons_succ]
    refine GoE.take (i := 2) (v := ?_) rfl (by decide) (by kernel_rfl) (by kernel_rfl) (by kernel_rfl) (by kernel_rfl) (fun _ _ _ h => h) (by rfl) ?_ (by assumption) ?_
    rotate_left
    · intro w hSw; (try dsimp only at hSw); go_simp; try (with_reducible rfl)
    try simp only [Act.put, List.setIfInBounds_toArray, List.set_cons_zero, List.set_cons_succ]
    have hz : SatL w5 (cl c2 30 #[.int .u32 0, .int .u32 0, .int .u32 0, .int .u32 0, .int .u32 0, .int .u32 0, .slice none 0 0, .slice none 0 0] :: _) := hd.pull 3
    obtain ⟨z0, z1, z2, z3, z4, z5, z6, z7⟩ := cell8 hz
    have f0 := SatL.free (hz : SatL _ (cl c2 _ _ :: _)) 0
    have f1 := SatL.free (hz : SatL _ (cl c2 _ _ :: _)) 1
    have f2 := SatL.free (hz : SatL _ (cl c2 _ _ :: _)) 2
    have f3 := SatL.free (hz : SatL _ (cl c2 _ _ :: _)) 3
    have f4 := SatL.free (hz : SatL _ (cl c2 _ _ :: _)) 4
    have f5 := SatL.free (hz : SatL _ (cl c2 _ _ :: _)) 5
    have f6 := SatL.free (hz : SatL _ (cl c2 _ _ :: _)) 6
    have f7 := SatL.free (hz : SatL _ (cl c2 _ _ :: _)) 7
    have hW := setz_sat hz
    have S1 := SatL.cell (hW.pull 1 : SatL _ (cl c6 _ _ :: _)) (i := 0) (v := .pointer (some ⟨nb, 0, none⟩)) rfl
    have HW := hid hW
    clear hz hW h2 h4 hd kA
    refine GoE.one (i := 3) rfl (by kernel_rfl) (fun K hK => ?_)
    go_simp
    refine hK.out _ _ (fun _ => S1) ?_
    clear hK K
    try simp only [Act.put, List.setIfInBounds_toArray, List.set_cons_zero, List.set_cons_succ]
    refine GoE.one (i := 4) rfl (by kernel_rfl) (fun K hK => ?_)
    go_simp
    refine hK.out _ _ (fun h => absurd rfl h) ?_
    clear hK K
    try simp only [Act.put, List.setIfInBounds_toArray, List.set_cons_zero, List.set_cons_succ]
    refine GoE.done (by kernel_rfl) ?_
    go_wp2_with fail
    have hW := HW.out
    generalize ((((((((w5.setCell ⟨c2, 0, none⟩ (.int .u32 0)).setCell ⟨c2, 1, none⟩ (.int .u32 0)).setCell ⟨c2, 2, none⟩ (.int .u32 0)).setCell ⟨c2, 3, none⟩ (.int .u32 0)).setCell ⟨c2, 4, none⟩ (.int .u32 0)).setCell ⟨c2, 5, none⟩ (.int .u32 0)).setCell ⟨c2, 6, none⟩ (.slice none 0 0)).setCell ⟨c2, 7, none⟩ (.slice none 0 0)) = W3 at hW ⊢
    obtain ⟨r0, r1, r2, r3, r4, r5, r6, r7⟩ := cell8 hW
    refine bodyPost_ret (v := .tuple #[noCall, .iface 53 (.pointer (some ⟨nb, 0, none⟩))]) (by simp [results, Tryd.results14, go_sem, r0, r1, r2, r3, r4, r5, r6, r7]) rfl (Ret.mk ?_)
    exact ⟨_, rfl, SatL.tail (SatL.tail (SatL.tail (SatL.bring hW [0, 1, 2, 3])))⟩
  | good cc =>
    rw [hq] at kR
    clear hq
    obtain ⟨xi, pr, ve, po, ui, gi, gs, bo⟩ := cc
    go_enter Tryd.func14, Tryd.ntmps14
    go_upto_region 3 with (first
      | (go_at_call 37; (with_reducible refine kR.mono ?_); rintro ev w1 ⟨q, rfl, gv, bv, hv, h1⟩; obtain ⟨gn, hgn⟩ : ∃ gn, gs.length = gn := ⟨_, rfl⟩; obtain ⟨ga, gc, rfl, _, _⟩ := Sl.valn h1 (m := gn) (by simp [hgn]); obtain ⟨bn, hbn⟩ : ∃ bn, bo.length = bn := ⟨_, rfl⟩; obtain ⟨ba, bc, rfl, _, _⟩ := Sl.valn h1.tail (m := bn) (by simp [hbn]); clear hgn hbn; simp only [CallL.cells] at hv; subst hv))
    have h2 := SatL.allocN (h1.alloc (.cells #[.int .u32 (xi : Int), .int .u32 (pr : Int), .int .u32 (ve : Int), .int .u32 (po : Int), .int .u32 (ui : Int), .int .u32 (gi : Int), .slice ga gn gc, .slice ba bn bc] 30)) (.cells #[.pointer none] 53) (n := w1.heap.size + 1) (by simp)
    generalize (w1.alloc (.cells #[.int .u32 (xi : Int), .int .u32 (pr : Int), .int .u32 (ve : Int), .int .u32 (po : Int), .int .u32 (ui : Int), .int .u32 (gi : Int), .slice ga gn gc, .slice ba bn bc] 30)).alloc (.cells #[.pointer none] 53) = w5 at h2 ⊢
    rw [← hc2] at h2 ⊢
    generalize w1.heap.size = c4 at h2 ⊢
    have kA := asnil_ok (t := .iface 55 (.pointer (some ⟨c4 + 1, 0, none⟩))) h2
    have h4 : SatL w5 (cl c4 30 #[.int .u32 (xi : Int), .int .u32 (pr : Int), .int .u32 (ve : Int), .int .u32 (po : Int), .int .u32 (ui : Int), .int .u32 (gi : Int), .slice ga gn gc, .slice ba bn bc] :: _) := h2.pull 1
    obtain ⟨x0, x1, x2, x3, x4, x5, x6, x7⟩ := cell8g h4
    have hz : SatL w5 (cl c2 30 #[.int .u32 0, .int .u32 0, .int .u32 0, .int .u32 0, .int .u32 0, .int .u32 0, .slice none 0 0, .slice none 0 0] :: _) := h4.pull 4
    obtain ⟨z0, z1, z2, z3, z4, z5, z6, z7⟩ := cell8 hz
    have f0 := SatL.free (hz : SatL _ (cl c2 _ _ :: _)) 0
    have f1 := SatL.free (hz : SatL _ (cl c2 _ _ :: _)) 1
    have f2 := SatL.free (hz : SatL _ (cl c2 _ _ :: _)) 2
    have f3 := SatL.free (hz : SatL _ (cl c2 _ _ :: _)) 3
    have f4 := SatL.free (hz : SatL _ (cl c2 _ _ :: _)) 4
    have f5 := SatL.free (hz : SatL _ (cl c2 _ _ :: _)) 5
    have f6 := SatL.free (hz : SatL _ (cl c2 _ _ :: _)) 6
    have f7 := SatL.free (hz : SatL _ (cl c2 _ _ :: _)) 7
    have hW := set8_sat hz (.int .u32 (xi : Int)) (.int .u32 (pr : Int)) (.int .u32 (ve : Int)) (.int .u32 (po : Int)) (.int .u32 (ui : Int)) (.int .u32 (gi : Int)) (.slice ga gn gc) (.slice ba bn bc)
    have HW := hid hW
    clear hz hW h4 h2 h1 kR hc2
    go_wp2_with (first
      | (go_at_call 20; (with_reducible refine kA.mono ?_); rintro ev w6 ⟨q, rfl, rfl, rfl⟩))
    have hW := HW.out
    generalize ((((((((w5.setCell ⟨c2, 0, none⟩ (.int .u32 (xi : Int))).setCell ⟨c2, 1, none⟩ (.int .u32 (pr : Int))).setCell ⟨c2, 2, none⟩ (.int .u32 (ve : Int))).setCell ⟨c2, 3, none⟩ (.int .u32 (po : Int))).setCell ⟨c2, 4, none⟩ (.int .u32 (ui : Int))).setCell ⟨c2, 5, none⟩ (.int .u32 (gi : Int))).setCell ⟨c2, 6, none⟩ (.slice ga gn gc)).setCell ⟨c2, 7, none⟩ (.slice ba bn bc)) = W3 at hW ⊢
    obtain ⟨r0, r1, r2, r3, r4, r5, r6, r7⟩ := cell8g hW
    refine bodyPost_ret (v := .tuple #[.agg #[.int .u32 (xi : Int), .int .u32 (pr : Int), .int .u32 (ve : Int), .int .u32 (po : Int), .int .u32 (ui : Int), .int .u32 (gi : Int), .slice ga gn gc, .slice ba bn bc], .nilIface]) (by simp [results, Tryd.results14, go_sem, r0, r1, r2, r3, r4, r5, r6, r7]) rfl (Ret.mk ?_)
    exact ⟨.slice ga gn gc, .slice ba bn bc, rfl, SatL.tail (SatL.tail (SatL.tail (SatL.bring hW [0, 1, 2, 3, 4])))⟩
end
end Go.Proofs.YtpecmkkcepnpeaaDoor
