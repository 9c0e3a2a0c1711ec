/- Plans of volumes: the program's and the document's. -/
import Derived.Test.YtklnlomleiebaaaNumF
import Derived.Test.YtklnlomleiebaaaApp
namespace Go.Proofs.Ytklnlomleiebaaa
set_option linter.unusedVariables false
set_option linter.unusedSimpArgs false
open Go.RowKit

/-- a plan: where what lies; its error -/
def planV (b i t d : Int) : Value := .agg #[.int .i64 b, .int .i64 i, .int .i64 1, .int .i64 2, .int .i64 68, .int .i64 69, .int .i64 t, .int .i64 d]
def noplan : Value := .agg #[.int .i64 0, .int .i64 0, .int .i64 0, .int .i64 0, .int .i64 0, .int .i64 0, .int .i64 0, .int .i64 0]
def tableOf (b : Int) : Int := 69 + (b + 4095) / 4096
def dataOf (b i : Int) : Int := tableOf b + i / 4
def planGood (b i : Int) : Prop := 128 ≤ b ∧ b ≤ 65536 ∧ 8 ≤ i ∧ i ≤ 4096 ∧ i % 4 = 0
instance (b i : Int) : Decidable (planGood b i) := by unfold planGood; infer_instance
def planErr (b i : Int) : Int := if planGood b i then (if dataOf b i + 8 > b then 14 else 0) else 1
def planSup (b i : Int) : Value := if planErr b i = 0 then planV b i (tableOf b) (dataOf b i) else noplan
def PlanPost (L : List HP) (b i : Int) (v : Value) (w : World) : Prop := v = .tuple #[planSup b i, .int .i64 (planErr b i)] ∧ SatL w L

section
variable {w : World} {L : List HP}


set_option maxHeartbeats 1000000 in
theorem plan_ok (h : SatL w L) (b i : Int) : Calls Try.prog 24 #[.int .i64 b, .int .i64 i] w (Ret (PlanPost L b i)) := by
  by_cases hg : planGood b i
  · have Hg := hid hg
    obtain ⟨g1, g2, g3, g4, g5⟩ := hg
    by_cases hd : dataOf b i + 8 > b
    · have He := hid (show planErr b i = 14 by unfold planErr; rw [if_pos Hg.out, if_pos hd])
      have Hs := hid (show planSup b i = noplan by unfold planSup; rw [He.out]; rfl)
      unfold dataOf tableOf at hd
      have he : b + 4096 - 1 = b + 4095 := by omega
      go_enter Try.func24, Try.ntmps24
      go_wp2
      refine bodyPost_ret (v := .tuple #[noplan, .int .i64 14]) (by simp [results, Try.results24, go_sem, noplan]) rfl (Ret.mk ⟨by rw [Hs.out, He.out], ?_⟩)
      exact SatL.tail (SatL.alloc (SatL.tail (SatL.alloc h _)) _)
    · have He := hid (show planErr b i = 0 by unfold planErr; rw [if_pos Hg.out, if_neg hd])
      have Hs := hid (show planSup b i = planV b i (tableOf b) (dataOf b i) by unfold planSup; rw [if_pos He.out])
      unfold dataOf tableOf at hd
      have he : b + 4096 - 1 = b + 4095 := by omega
      go_enter Try.func24, Try.ntmps24
      go_wp2
      refine bodyPost_ret (v := .tuple #[planV b i (tableOf b) (dataOf b i), .int .i64 0]) (by simp [results, Try.results24, go_sem, planV, tableOf, dataOf]) rfl (Ret.mk ⟨by rw [Hs.out, He.out], ?_⟩)
      exact SatL.tail (SatL.alloc (SatL.tail (SatL.alloc h _)) _)
  · have He := hid (show planErr b i = 1 by unfold planErr; rw [if_neg hg])
    have Hs := hid (show planSup b i = noplan by unfold planSup; rw [He.out]; rfl)
    unfold planGood at hg
    by_cases hr : 128 ≤ b ∧ b ≤ 65536 ∧ 8 ≤ i ∧ i ≤ 4096
    · obtain ⟨g1, g2, g3, g4⟩ := hr
      have g5 : (i % 4 != 0) = true := by simp; omega
      go_enter Try.func24, Try.ntmps24
      go_wp2
      all_goals first
        | (refine bodyPost_ret (v := .tuple #[noplan, .int .i64 1]) (by simp [results, Try.results24, go_sem, noplan]) rfl (Ret.mk ⟨by rw [Hs.out, He.out], ?_⟩); exact SatL.tail (SatL.alloc h _))
        | (exfalso; omega)
    · clear hg
      go_enter Try.func24, Try.ntmps24
      go_wp2
      all_goals first
        | (refine bodyPost_ret (v := .tuple #[noplan, .int .i64 1]) (by simp [results, Try.results24, go_sem, noplan]) rfl (Ret.mk ⟨by rw [Hs.out, He.out], ?_⟩); exact SatL.tail (SatL.alloc h _))
        | (exfalso; omega)

set_option maxHeartbeats 1000000 in
theorem refplan_ok (h : SatL w L) (b i : Int) : Calls Try.prog 37 #[.int .i64 b, .int .i64 i] w (Ret (PlanPost L b i)) := by
  by_cases hg : planGood b i
  · have Hg := hid hg
    obtain ⟨g1, g2, g3, g4, g5⟩ := hg
    by_cases hd : dataOf b i + 8 > b
    · have He := hid (show planErr b i = 14 by unfold planErr; rw [if_pos Hg.out, if_pos hd])
      have Hs := hid (show planSup b i = noplan by unfold planSup; rw [He.out]; rfl)
      unfold dataOf tableOf at hd
      have he : b + 4096 - 1 = b + 4095 := by omega
      go_enter Try.func37, Try.ntmps37
      go_wp2
      refine bodyPost_ret (v := .tuple #[noplan, .int .i64 14]) (by simp [results, Try.results37, go_sem, noplan]) rfl (Ret.mk ⟨by rw [Hs.out, He.out], ?_⟩)
      exact SatL.tail (SatL.alloc (SatL.tail (SatL.alloc h _)) _)
    · have He := hid (show planErr b i = 0 by unfold planErr; rw [if_pos Hg.out, if_neg hd])
      have Hs := hid (show planSup b i = planV b i (tableOf b) (dataOf b i) by unfold planSup; rw [if_pos He.out])
      unfold dataOf tableOf at hd
      have he : b + 4096 - 1 = b + 4095 := by omega
      go_enter Try.func37, Try.ntmps37
      go_wp2
      refine bodyPost_ret (v := .tuple #[planV b i (tableOf b) (dataOf b i), .int .i64 0]) (by simp [results, Try.results37, go_sem, planV, tableOf, dataOf]) rfl (Ret.mk ⟨by rw [Hs.out, He.out], ?_⟩)
      exact SatL.tail (SatL.alloc (SatL.tail (SatL.alloc h _)) _)
  · have He := hid (show planErr b i = 1 by unfold planErr; rw [if_neg hg])
    have Hs := hid (show planSup b i = noplan by unfold planSup; rw [He.out]; rfl)
    unfold planGood at hg
    by_cases hr : 128 ≤ b ∧ b ≤ 65536 ∧ 8 ≤ i ∧ i ≤ 4096
    · obtain ⟨g1, g2, g3, g4⟩ := hr
      have g5 : (i % 4 != 0) = true := by simp; omega
      go_enter Try.func37, Try.ntmps37
      go_wp2
      all_goals first
        | (refine bodyPost_ret (v := .tuple #[noplan, .int .i64 1]) (by simp [results, Try.results37, go_sem, noplan]) rfl (Ret.mk ⟨by rw [Hs.out, He.out], ?_⟩); exact SatL.tail (SatL.alloc h _))
        | (exfalso; omega)
    · clear hg
      go_enter Try.func37, Try.ntmps37
      go_wp2
      all_goals first
        | (refine bodyPost_ret (v := .tuple #[noplan, .int .i64 1]) (by simp [results, Try.results37, go_sem, noplan]) rfl (Ret.mk ⟨by rw [Hs.out, He.out], ?_⟩); exact SatL.tail (SatL.alloc h _))
        | (exfalso; omega)
end
end Go.Proofs.Ytklnlomleiebaaa
