/- Sleep, Wake, Ready, Spawn, New of the scheduler. -/
import Derived.Test.YtcehhkhcofokkaaSchedB
namespace Go.Proofs.Ytcehhkhcofokkaa
open Go.RowKit
set_option linter.unusedVariables false

def SchedS.sleep (S : SchedS) (id ch : Int) : Int × SchedS := if S.may id = 0 then (0, { S.rest id.toNat 2 with sl := upf S.sl ch (S.sl ch ++ [id]) }) else (S.may id, S)
def SPost (pb : Nat) (l : List HP) (r : Int × SchedS) (v : Value) (w : World) : Prop := v = .int .i64 r.1 ∧ SatL w (SchedR pb r.2 :: l)

section
variable {w : World} {l : List HP} {pb : Nat} {S : SchedS}

theorem may_zero {id : Int} (h : S.may id = 0) : ∃ (i : Nat) (x : Wk), id = i ∧ S.all[i]? = some x ∧ x.state ≠ 5 ∧ x.state ≠ 2 ∧ x.state ≠ 3 ∧ x.state ≠ 4 := by
  unfold SchedS.may at h
  split at h
  · cases h
  · split at h
    · cases h
    · rename_i x hx
      refine ⟨id.toNat, x, by omega, hx, ?_⟩
      split at h
      · cases h
      · split at h
        · cases h
        · rename_i h1 h2 h3; simp at h3; omega

set_option maxHeartbeats 800000 in
theorem sleep_ok (h : SatL w (SchedR pb S :: l)) (id ch : Int) (ha : S.all.length < 1000000) (hl : (S.sl ch).length < 1000000) :
    Calls Try.prog 13 #[.pointer (some ⟨pb, 0, none⟩), .int .i64 id, .int .i64 ch] w (Ret (SPost pb l (S.sleep id ch))) := by
  have hm := may_ok h id ha
  by_cases hz : S.may id = 0
  · obtain ⟨i, x, rfl, hx, _⟩ := may_zero hz
    have Hq := hid (show S.sleep i ch = (0, { S.rest i 2 with sl := upf S.sl ch (S.sl ch ++ [(i : Int)]) }) by unfold SchedS.sleep; rw [if_pos hz]; rfl)
    rw [hz] at hm
    have hw := fun (w1 : World) (h1 : SatL w1 (SchedR pb S :: l)) => wait_ok h1 hx 2
    clear hz hx h
    have t1 : True := trivial
    go_enter Try.func13, Try.ntmps13
    go_wp2_with (first
      | (have _t := t1; (with_reducible refine hm.mono ?_); clear t1; rintro e w1 ⟨v, rfl, rfl, hs1⟩)
      | ((with_reducible refine (hw _ hs1).mono ?_); rintro e w2 ⟨v, rfl, rfl, hs2⟩)
      | fail "no")
    obtain ⟨av, qv, sm, hb, wm, tv, h1⟩ := Sched_open.1 hs2
    have hrow : SatL w2 (MapRows sm S.sl :: _) := h1.pull 3
    obtain ⟨rv, es, L, hv, h2, back, _, _⟩ := rows_open hrow ch
    have c2 := (h2.pull 3 : SatL w2 (SchedC _ _ _ _ _ _ _ :: _)).cell (i := 2) rfl
    have hr := run_lookup_sl key_rows (h2.pull 1 : SatL w2 (MapI sm es :: _)) ch
    rw [hv] at hr
    have h2d := sat_drew.2 h2
    have al : SatL (w2.alloc (.cells #[.int .i64 (i : Int)] 3)).drew (cl w2.heap.size 3 #[.int .i64 (i : Int)] :: _) := sat_drew.2 (SatL.alloc h2 (.cells #[.int .i64 (i : Int)] 3))
    have c2d : w2.drew.cell? ⟨pb, 2, none⟩ = some (.map (some sm)) := c2
    have hrd : (Instr.lookup 92 (.map (some sm)) (.int .i64 ch) false).run Try.prog w2.drew = .ok rv w2.drew := by
      have := run_lookup_sl key_rows (h2d.pull 1 : SatL w2.drew (MapI sm es :: _)) ch
      rw [hv] at this; exact this
    have c2a := (al.pull 4 : SatL _ (SchedC _ _ _ _ _ _ _ :: _)).cell (i := 2) rfl
    have hra := run_lookup_sl key_rows (al.pull 2 : SatL _ (MapI sm es :: _)) ch
    rw [hv] at hra
    have sx := SrcOk.ofCl (k := 1) (n := 1) elem_int.under al rfl 1
    have s3 := Sl.toK (al.pull 1 : SatL _ (Sl _ _ _ :: _)) (ints_len _)
    have hone : ∀ y ∈ (#[Value.int .i64 (i : Int)] : Array Value).toList, y.oneCell' = true := by simp [Value.oneCell']
    have hbb : ((S.sl ch).length + 1) * 8 ≤ 140737488355328 := by omega
    have h63 : (S.sl ch).length + 1 ≤ maxLen := by unfold maxLen; omega
    clear h2 h2d hrow h1 hs2 hs1 hr c2 hw hm al
    have t2 : True := trivial
    go_region_law (first
      | (have _t := t2; refine step_append_sl rfl (.tmp 27) (.tmp 29) rfl elem_int rfl s3 rfl sx hone hbb h63 ?_; clear t2; intro v' w3 h6 _; have c3 : w3.cell? ⟨pb, 2, none⟩ = some (.map (some sm)) := (SatL.pull h6 4 : SatL w3 (SchedC _ _ _ _ _ _ _ :: _)).cell (i := 2) rfl; obtain ⟨w4, hmu, h7⟩ := run_mapUpdate_sl key_rows (SatL.pull h6 2 : SatL w3 (MapI sm es :: _)) ch v')
      | fail "no arm")
    all_goals
      have h8 : SatL w4 (MapI sm (mput es ch v') :: SlK 3 1 v' ((S.sl ch).length + 1) (ints (S.sl ch) ++ [Value.int .i64 (i : Int)]) :: cl w2.heap.size 3 #[.int .i64 (i : Int)] :: L :: _) := h7
      have e : ints (S.sl ch ++ [(i : Int)]) = ints (S.sl ch) ++ [.int .i64 i] := by simp [ints]
      have h9 := SatL.tail (h8.bring [2, 1, 0])
      have h10 := back w4 v' (S.sl ch ++ [(i : Int)]) _ (by rw [e]; exact Sl.ofK h9)
      clear h7 h8 h9 hmu c3 h6
      go_wp2
      go_ret
      refine Ret.mk ?_
      rw [Hq.out]
      exact ⟨rfl, Sched_open.2 ⟨av, qv, sm, hb, wm, tv, h10.bring [1, 2, 3, 0, 4, 5, 6, 7]⟩⟩
  · have Hq := hid (show S.sleep id ch = (S.may id, S) by unfold SchedS.sleep; rw [if_neg hz])
    generalize S.may id = r at *
    go_enter Try.func13, Try.ntmps13
    go_wp2_with ((with_reducible refine hm.mono ?_); rintro e w1 ⟨v, rfl, rfl, hs1⟩)
    go_ret
    exact Ret.mk (by rw [Hq.out]; exact ⟨rfl, hs1⟩)
end
end Go.Proofs.Ytcehhkhcofokkaa
