/- rpc's laws: theirs, same (of calls that are alike). No condition. -/
import Derived.Test.YtpecmkkcepnpeaaDoorRecM
import Derived.Test.YtpecmkkcepnpeaaDoorLawCreds
namespace Go.Proofs.YtpecmkkcepnpeaaDoor
set_option linter.unusedVariables false
set_option linter.unusedSimpArgs false
open Go.RowKit
section
variable {w : World} {L : List HP}
theorem set8r_sat {T c2 : Nat} {X : List HP} {a0 a1 a2 a3 a4 a5 a6 a7 : Value} (h : SatL w (cl c2 T #[a0, a1, a2, a3, a4, a5, a6, a7] :: X)) : w.cell? ⟨c2, 0, none⟩ = some a0 ∧ w.cell? ⟨c2, 1, none⟩ = some a1 ∧ w.cell? ⟨c2, 2, none⟩ = some a2 ∧ w.cell? ⟨c2, 3, none⟩ = some a3 ∧ w.cell? ⟨c2, 4, none⟩ = some a4 ∧ w.cell? ⟨c2, 5, none⟩ = some a5 ∧ w.cell? ⟨c2, 6, none⟩ = some a6 ∧ w.cell? ⟨c2, 7, none⟩ = some a7 :=
  ⟨h.cell (i := 0) rfl, h.cell (i := 1) rfl, h.cell (i := 2) rfl, h.cell (i := 3) rfl, h.cell (i := 4) rfl, h.cell (i := 5) rfl, h.cell (i := 6) rfl, h.cell (i := 7) rfl⟩
abbrev callC (xi pr ve po ui gi : Nat) (gv bv : Value) : Array Value := #[.int .u32 (xi : Int), .int .u32 (pr : Int), .int .u32 (ve : Int), .int .u32 (po : Int), .int .u32 (ui : Int), .int .u32 (gi : Int), gv, bv]
set_option maxRecDepth 100000 in
set_option maxHeartbeats 2000000 in
theorem theirs_ok {xi pr ve po ui gi : Nat} {ga ba : Option Addr} {gn gc bn bc : Nat} (h : SatL w L) :
    Calls Tryd.prog 24 #[.agg (callC xi pr ve po ui gi (.slice ga gn gc) (.slice ba bn bc))] w (Ret fun v w' => v = .agg (callC xi pr ve po ui gi (.slice ga gn gc) (.slice ba bn bc)) ∧ SatL w' L) := by
  have h1 := h.alloc (.cells (callC xi pr ve po ui gi (.slice ga gn gc) (.slice ba bn bc)) 30)
  obtain ⟨x0, x1, x2, x3, x4, x5, x6, x7⟩ := set8r_sat (h1 : SatL _ (cl w.heap.size _ #[_, _, _, _, _, _, _, _] :: _))
  go_enter Tryd.func24, Tryd.ntmps24
  go_wp2
  have h2 := SatL.allocN h1 (.cells #[.int .u32 (xi : Int), .int .u32 (pr : Int), .int .u32 (ve : Int), .int .u32 (po : Int), .int .u32 (ui : Int), .int .u32 (gi : Int), .slice ga gn gc, .slice ba bn bc] 64) (n := w.heap.size + 1) (by simp)
  obtain ⟨r0, r1, r2, r3, r4, r5, r6, r7⟩ := set8r_sat (h2 : SatL _ (cl (w.heap.size + 1) _ #[_, _, _, _, _, _, _, _] :: _))
  refine bodyPost_ret (v := .agg (callC xi pr ve po ui gi (.slice ga gn gc) (.slice ba bn bc))) (by simp [results, Tryd.results24, go_sem, r0, r1, r2, r3, r4, r5, r6, r7]) rfl (Ret.mk ⟨rfl, h2.tail.tail⟩)
theorem sameF {w0 : World} {L : List HP} {b1 b2 gn c1 c2 : Nat} {gs : List Nat} {a1 a2 : Option Addr} {cs ds : Array Value} {T1 T2 : Nat} (hgn : gs.length = gn) (g1 : Gives L (RdW (.slice a1 gn c1) gs)) (g2 : Gives L (RdW (.slice a2 gn c2) gs)) (hc : cs[6]? = some (.slice a1 gn c1)) (hd : ds[6]? = some (.slice a2 gn c2))
    (h' : SatL w (pt b2 (.cells ds T2) :: pt b1 (.cells cs T1) :: L)) :
    (w.cell? ⟨b1, 6, none⟩ = some (.slice a1 gn c1) ∧ w.cell? ⟨b2, 6, none⟩ = some (.slice a2 gn c2) ∧ ∀ k, k < gn → ∃ pb po gb go x, a1 = some ⟨pb, po, none⟩ ∧ a2 = some ⟨gb, go, none⟩ ∧ w.cell? ⟨pb, po + k, none⟩ = some (.int .u32 x) ∧ w.cell? ⟨gb, go + k, none⟩ = some (.int .u32 x)) ∧ SatL w L := by
  refine ⟨⟨SatL.cell (h'.swap : SatL w (cl b1 _ _ :: _)) (i := 6) hc, SatL.cell (h' : SatL w (cl b2 _ _ :: _)) (i := 6) hd, fun k hk => ?_⟩, h'.tail.tail⟩
  obtain ⟨_, _, _, pb, po, rfl, hp⟩ := (g1 w h'.tail.tail).at (by omega)
  obtain ⟨_, _, _, gb, go, rfl, hg⟩ := (g2 w h'.tail.tail).at (by omega)
  exact ⟨pb, po, gb, go, _, rfl, rfl, hp k (by omega), hg k (by omega)⟩
set_option maxRecDepth 100000 in
set_option maxHeartbeats 4000000 in
theorem same_ok {xi pr ve po ui gi : Nat} {gs : List Nat} {bo : List UInt8} {gv1 gv2 bv1 bv2 : Value} (h : SatL w L) (hg1 : Gives L (RdW gv1 gs)) (hg2 : Gives L (RdW gv2 gs)) (hb1 : Gives L (RdV bv1 bo)) (hb2 : Gives L (RdV bv2 bo)) :
    Calls Tryd.prog 29 #[.agg (callC xi pr ve po ui gi gv1 bv1), .agg (callC xi pr ve po ui gi gv2 bv2)] w (Ret fun v w' => v = .bool true ∧ SatL w' L) := by
  obtain ⟨gn, hgn⟩ : ∃ gn, gs.length = gn := ⟨_, rfl⟩
  obtain ⟨bn, hbn⟩ : ∃ bn, bo.length = bn := ⟨_, rfl⟩
  obtain ⟨a1, c1, rfl, p1, p2⟩ := (hg1 w h).valn
  obtain ⟨a2, c2, rfl, p3, p4⟩ := (hg2 w h).valn
  obtain ⟨d1, e1, rfl, _, _⟩ := (hb1 w h).valn
  obtain ⟨d2, e2, rfl, _, _⟩ := (hb2 w h).valn
  rw [hgn] at hg1 hg2 p1 p3 ⊢
  rw [hbn] at hb1 hb2 ⊢
  have h1 := h.alloc (.cells (callC xi pr ve po ui gi (.slice a1 gn c1) (.slice d1 bn e1)) 30)
  have h2 := SatL.allocN h1 (.cells (callC xi pr ve po ui gi (.slice a2 gn c2) (.slice d2 bn e2)) 64) (n := w.heap.size + 1) (by simp)
  go_enter Tryd.func29, Tryd.ntmps29
  go_upto_region 1 with fail
  generalize (w.alloc _).alloc _ = w2 at h2 ⊢
  generalize w.heap.size + 1 = b2 at h2 ⊢
  generalize w.heap.size = b1 at h2 ⊢
  obtain ⟨x0, x1, x2, x3, x4, x5, x6, x7⟩ := set8r_sat (h2.swap : SatL w2 (cl b1 _ #[_, _, _, _, _, _, _, _] :: _))
  obtain ⟨y0, y1, y2, y3, y4, y5, y6, y7⟩ := set8r_sat (h2 : SatL w2 (cl b2 _ #[_, _, _, _, _, _, _, _] :: _))
  have v1 := RdV.conv (hb1 w2 h2.tail.tail)
  have v2 := RdV.conv (hb2 w2 h2.tail.tail)
  generalize (⟨bo.toArray⟩ : ByteArray) = SB at v1 v2
  obtain ⟨HL, hHL, hF⟩ := exHL h2 (fun w' h' => sameF (w0 := w) hgn hg1 hg2 rfl rfl h')
  have HF := hid hF
  clear hF h2 h1 h hg1 hg2 hb1 hb2 hgn hbn
  go_upto_region 3 with fail
  clear x0 x1 x2 x3 x4 x5 x6 x7 y0 y1 y2 y3 y4 y5 y6 y7 v1 v2
  go_upto_block 0 with fail
  go_wp2_with fail
  go_loopw [5] (fun i wr => ∃ k : Nat, k ≤ gn ∧ i = .int .i64 k ∧ SatL wr HL) (fun i _ => gn - (intOf i).toNat)
  case atStart => exact ⟨0, by omega, rfl, hHL⟩
  case round =>
    obtain ⟨k, hk, rfl, hwr⟩ := hrel
    obtain ⟨⟨y6, y2, hel⟩, hold⟩ := HF.out _ hwr
    by_cases hlt : k < gn
    · obtain ⟨pb, po', gb, go', x, rfl, rfl, e1, e2⟩ := hel k hlt
      have hlt3 : (k : Int) < gn := by omega
      have hw1 : IntKind.i64.wrap ((k : Int) + 1) = ((k + 1 : Nat) : Int) := by rw [IntWalk.i64_in _ (by omega)]; omega
      have Hwr := hid hwr
      clear hwr hel hold
      go_wp2
      go_quiet (fail)
      go_wp2
      go_roundw
      case rel => exact ⟨k + 1, by omega, by go_num, sat_drewM.2 Hwr.out⟩
      case measure => simp [intOf]; omega
    · obtain rfl : k = gn := by omega
      have Hold := hid hold
      clear hel hwr hold
      go_wp2
      go_ret
      exact Ret.mk ⟨rfl, Hold.out⟩
end
end Go.Proofs.YtpecmkkcepnpeaaDoor
