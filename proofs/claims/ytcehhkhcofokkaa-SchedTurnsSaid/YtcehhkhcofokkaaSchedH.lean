/- Unlock of the scheduler, where nobody waits. -/
import Derived.Test.YtcehhkhcofokkaaSchedG
namespace Go.Proofs.Ytcehhkhcofokkaa
open Go.RowKit
set_option linter.unusedVariables false
section
variable {w : World} {l : List HP} {pb : Nat} {S : SchedS}

set_option maxRecDepth 100000 in
theorem unlock_free (h : SatL w (SchedR pb S :: l)) (id k : Int) (ha : S.all.length < 1000000) (hs : S.has id = true) (hk : S.hold k = some id) (hw : S.wait k = []) :
    Calls Try.prog 32 #[.pointer (some ⟨pb, 0, none⟩), .int .i64 id, .int .i64 k] w (Ret (SPost pb l (S.unlock id k))) := by
  have hh := has_ok h id ha
  have Hq := hid (show S.unlock id k = (0, { S with hold := upf S.hold k none }) by simp [SchedS.unlock, hs, hk, hw])
  rw [hs] at hh
  have hlk : ∀ (w1 : World), SatL w1 (SchedR pb S :: l) → ∃ av qv sm hb wm tv es, ∃ c : Nat, SatL w1 (MapI hb es :: SchedC pb av qv sm hb wm tv :: Sl 90 av (S.all.map wptr) :: Sl 3 qv (ints S.queue) :: MapRows sm S.sl :: MapRows wm S.wait :: Sl 3 tv (ints S.timers) :: big WkR S.all :: l) ∧ (∀ k, mget es k = (S.hold k).map (.int .i64)) ∧
      (Instr.lookup 93 (.map (some hb)) (.int .i64 k) true).run Try.prog w1 = .ok (.tuple #[.int .i64 id, .bool true]) w1 ∧
      ∃ a, (Instr.lookup 92 (.map (some wm)) (.int .i64 k) false).run Try.prog w1 = .ok (.slice a 0 c) w1 := by
    intro w1 h1
    obtain ⟨av, qv, sm, hb, wm, tv, h2⟩ := Sched_open.1 h1
    have h3 := hold_look (h2.pull 4 : SatL w1 (MapH hb S.hold :: _)) k
    rw [hk] at h3
    obtain ⟨es, he, h4⟩ := sat_hold.1 (h2.pull 4 : SatL w1 (MapH hb S.hold :: _))
    obtain ⟨rv, es2, L, hv, h5, _, _, _⟩ := rows_open (h2.pull 5 : SatL w1 (MapRows wm S.wait :: _)) k
    have hr := run_lookup_sl key_rows (h5.pull 1 : SatL w1 (MapI wm es2 :: _)) k
    rw [hv] at hr
    obtain ⟨a, c, rfl, _, _⟩ := Sl.valn h5 (m := 0) (by rw [ints_len, hw]; rfl)
    exact ⟨av, qv, sm, hb, wm, tv, es, c, h4, he, h3, a, hr⟩
  clear hs hk hw h
  go_enter Try.func32, Try.ntmps32
  have t1 : True := trivial
  go_wp2_with (first
    | (have _t := t1; (with_reducible refine hh.mono ?_); clear t1; rintro e w1 ⟨v, rfl, rfl, hs1⟩; obtain ⟨av, qv, sm, hb, wm, tv, es, c, h4, he, hl1, a, hl2⟩ := hlk _ hs1; have c3 := (h4.pull 1 : SatL w1 (SchedC _ _ _ _ _ _ _ :: _)).cell (i := 3) rfl; have c4 := (h4.pull 1 : SatL w1 (SchedC _ _ _ _ _ _ _ :: _)).cell (i := 4) rfl)
    | (refine wpList_delete_sl rfl (.tmp 42) (.tmp 43) rfl key_hold rfl h4 rfl ?_; intro w2 h5)
    | fail "no")
  go_ret
  refine Ret.mk ?_
  rw [Hq.out]
  exact ⟨rfl, Sched_open.2 ⟨av, qv, sm, hb, wm, tv, (hold_del he h5).bring [1, 2, 3, 4, 0, 5, 6, 7]⟩⟩
end
end Go.Proofs.Ytcehhkhcofokkaa
