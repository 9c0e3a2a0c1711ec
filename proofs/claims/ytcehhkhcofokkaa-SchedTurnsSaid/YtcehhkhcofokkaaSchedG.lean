/- Unlock of the scheduler. -/
import Derived.Test.YtcehhkhcofokkaaSchedF
import Derived.Test.YtcehhkhcofokkaaMapE
namespace Go.Proofs.Ytcehhkhcofokkaa
open Go.RowKit
set_option linter.unusedVariables false

def SchedS.unlock (S : SchedS) (id k : Int) : Int × SchedS :=
  if S.has id then
    if S.hold k = some id then match S.wait k with
      | [] => (0, { S with hold := upf S.hold k none })
      | x :: xs => (0, SchedS.rdy { S with hold := upf S.hold k (some x), wait := upf S.wait k xs } x.toNat)
    else (1, S)
  else (2, S)

section
variable {w : World} {l : List HP} {pb : Nat} {S : SchedS}

set_option maxRecDepth 100000 in
theorem unlock_none (h : SatL w (SchedR pb S :: l)) (id k : Int) (ha : S.all.length < 1000000) (hc : S.has id = false ∨ S.hold k ≠ some id) :
    Calls Try.prog 32 #[.pointer (some ⟨pb, 0, none⟩), .int .i64 id, .int .i64 k] w (Ret (SPost pb l (S.unlock id k))) := by
  have hh := has_ok h id ha
  cases hs : S.has id with
  | false =>
    have Hq := hid (show S.unlock id k = (2, S) by simp [SchedS.unlock, hs])
    rw [hs] at hh
    go_enter Try.func32, Try.ntmps32
    go_wp2_with ((with_reducible refine hh.mono ?_); rintro e w1 ⟨v, rfl, rfl, hs1⟩)
    go_ret
    exact Ret.mk (by rw [Hq.out]; exact ⟨rfl, hs1⟩)
  | true =>
    have hc' : S.hold k ≠ some id := by rcases hc with h | h; (rw [hs] at h; cases h); exact h
    have Hq := hid (show S.unlock id k = (1, S) by simp [SchedS.unlock, hs, hc'])
    rw [hs] at hh
    have hlk : ∀ (w1 : World), SatL w1 (SchedR pb S :: l) → ∃ av qv sm hb wm tv, SatL w1 (SchedO pb av qv sm hb wm tv S l) ∧ (Instr.lookup 93 (.map (some hb)) (.int .i64 k) true).run Try.prog w1 = .ok (.tuple #[.int .i64 ((S.hold k).getD 0), .bool (S.hold k).isSome]) w1 := by
      intro w1 h1
      obtain ⟨av, qv, sm, hb, wm, tv, h2⟩ := Sched_open.1 h1
      exact ⟨av, qv, sm, hb, wm, tv, h2, hold_look (h2.pull 4 : SatL w1 (MapH hb S.hold :: _)) k⟩
    clear hc hs
    cases hk : S.hold k with
    | none =>
      simp only [hk, Option.getD_none, Option.isSome_none] at hlk
      clear hc' hk
      go_enter Try.func32, Try.ntmps32
      go_wp2_with ((with_reducible refine hh.mono ?_); rintro e w1 ⟨v, rfl, rfl, hs1⟩; obtain ⟨av, qv, sm, hb, wm, tv, h1, hl⟩ := hlk _ hs1; have c3 := h1.cell (i := 3) rfl)
      go_ret
      exact Ret.mk (by rw [Hq.out]; exact ⟨rfl, hs1⟩)
    | some y =>
      simp only [hk, Option.getD_some, Option.isSome_some] at hlk
      have hy : ¬ y = id := by intro e; exact hc' (by rw [hk, e])
      clear hc' hk
      go_enter Try.func32, Try.ntmps32
      go_wp2_with ((with_reducible refine hh.mono ?_); rintro e w1 ⟨v, rfl, rfl, hs1⟩; obtain ⟨av, qv, sm, hb, wm, tv, h1, hl⟩ := hlk _ hs1; have c3 := h1.cell (i := 3) rfl)
      go_ret
      exact Ret.mk (by rw [Hq.out]; exact ⟨rfl, hs1⟩)
end
end Go.Proofs.Ytcehhkhcofokkaa
