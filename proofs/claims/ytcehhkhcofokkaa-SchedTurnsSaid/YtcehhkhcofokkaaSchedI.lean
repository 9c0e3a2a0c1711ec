/- Unlock of the scheduler, where somebody waits. -/
import Derived.Test.YtcehhkhcofokkaaSchedH
import Derived.Test.YtcehhkhcofokkaaAuto
import Derived.BigRegion
namespace Go.Proofs.Ytcehhkhcofokkaa
open Go.RowKit
set_option linter.unusedVariables false
section
variable {w : World} {l : List HP} {pb : Nat} {S : SchedS}

theorem unlock_view (h : SatL w (SchedR pb S :: l)) {id k x : Int} {xs : List Int} (hk : S.hold k = some id) (hw : S.wait k = x :: xs) :
    ∃ av qv sm hb wm tv es, ∃ (es2 : IM) (L : HP) (b off c : Nat), SatL w (MapI hb es :: MapI wm es2 :: Sl 3 (.slice (some ⟨b, off, none⟩) (xs.length + 1) c) (ints (x :: xs)) :: L :: SchedC pb av qv sm hb wm tv :: Sl 90 av (S.all.map wptr) :: Sl 3 qv (ints S.queue) :: MapRows sm S.sl :: Sl 3 tv (ints S.timers) :: big WkR S.all :: l) ∧ (∀ k, mget es k = (S.hold k).map (.int .i64)) ∧
      (∀ (w' : World) (v' : Value) (xs' : List Int) (l' : List HP), SatL w' (Sl 3 v' (ints xs') :: MapI wm (mput es2 k v') :: L :: l') → SatL w' (MapRows wm (upf S.wait k xs') :: l')) ∧
      (∀ (w' : World) (l' : List HP), SatL w' (MapI wm (mdel es2 k) :: L :: l') → SatL w' (MapRows wm (upf S.wait k []) :: l')) ∧
      (Instr.lookup 93 (.map (some hb)) (.int .i64 k) true).run Try.prog w = .ok (.tuple #[.int .i64 id, .bool true]) w ∧
      (Instr.lookup 92 (.map (some wm)) (.int .i64 k) false).run Try.prog w = .ok (.slice (some ⟨b, off, none⟩) (xs.length + 1) c) w ∧ xs.length + 1 ≤ c ∧ c ≤ 9223372036854775807 := by
  obtain ⟨av, qv, sm, hb, wm, tv, h2⟩ := Sched_open.1 h
  have h3 := hold_look (h2.pull 4 : SatL w (MapH hb S.hold :: _)) k
  rw [hk] at h3
  obtain ⟨rv, es2, L, hv, h5, back, bdel, _⟩ := rows_open (h2.pull 5 : SatL w (MapRows wm S.wait :: _)) k
  have hr := run_lookup_sl key_rows (h5.pull 1 : SatL w (MapI wm es2 :: _)) k
  rw [hv] at hr
  rw [hw] at h5
  obtain ⟨a, c, rfl, g1, g2⟩ := Sl.valn h5 (m := xs.length + 1) (by rw [ints_len]; rfl)
  obtain ⟨b, off, rfl⟩ := Sl.addr h5 (by omega)
  obtain ⟨es, he, h6⟩ := sat_hold.1 (h5.pull 7 : SatL w (MapH hb S.hold :: _))
  exact ⟨av, qv, sm, hb, wm, tv, es, es2, L, b, off, c, h6.bring [0, 2, 1], he, back, bdel, h3, hr, g1, g2⟩

set_option maxRecDepth 100000 in
set_option maxHeartbeats 1600000 in
theorem unlock_one (h : SatL w (SchedR pb S :: l)) (id k : Int) (i : Nat) (y : Wk) (ha : S.all.length < 1000000) (hq : S.queue.length < 1000000) (hs : S.has id = true) (hk : S.hold k = some id) (hw : S.wait k = [(i : Int)]) (hx : S.all[i]? = some y) :
    Calls Try.prog 32 #[.pointer (some ⟨pb, 0, none⟩), .int .i64 id, .int .i64 k] w (Ret (SPost pb l (S.unlock id k))) := by
  have hh := has_ok h id ha
  have Hq := hid (show S.unlock id k = (0, SchedS.rdy { S with hold := upf S.hold k (some (i : Int)), wait := upf S.wait k [] } i) by simp [SchedS.unlock, hs, hk, hw])
  rw [hs] at hh
  have hlk := fun (w1 : World) (h1 : SatL w1 (SchedR pb S :: l)) => unlock_view h1 hk hw
  have hrdy := fun (w1 : World) (h1 : SatL w1 (SchedR pb { S with hold := upf S.hold k (some (i : Int)), wait := upf S.wait k [] } :: l)) => ready_ok h1 (i := i) hx ha hq
  simp only [List.length_nil] at hlk
  have hk63 : (i : Int) ≤ 1000000 := by have := (List.getElem?_eq_some_iff.1 hx).1; omega
  clear hs hk hw h hx
  have t1 : True := trivial
  go_enter Try.func32, Try.ntmps32
  go_wp2_with (first
    | (have _t := t1; (with_reducible refine hh.mono ?_); clear t1; rintro e w1 ⟨v, rfl, rfl, hs1⟩; obtain ⟨av, qv, sm, hb, wm, tv, es, es2, L, b, off, c, h4, he, back, bdel, hl1, hl2, g1, g2⟩ := hlk _ hs1; have c3 := (h4.pull 4 : SatL w1 (SchedC _ _ _ _ _ _ _ :: _)).cell (i := 3) rfl; have c4 := (h4.pull 4 : SatL w1 (SchedC _ _ _ _ _ _ _ :: _)).cell (i := 4) rfl)
    | fail "no")
  have ce : w1.cell? ⟨b, off, none⟩ = some (.int .i64 i) := Sl.cell (h4.pull 2 : SatL w1 (Sl _ _ _ :: _)) (i := 0) (x := .int .i64 i) rfl
  have h5 := sat_drew.2 h4
  obtain ⟨v0, st, A, r1, hA⟩ := run_mapEntry_sl key_hold h5 k
  obtain ⟨B, r2, hB⟩ := run_entryStore_sl hA (.int .i64 i)
  obtain ⟨v1, st1, C, r3, hC⟩ := run_mapEntry_sl key_rows (hB.pull 1) k
  obtain ⟨D, hD⟩ := run_entryStore_all hC
  have r4 := fun val => (hD val).1
  have hD := fun val => (hD val).2
  have ceA : A.cell? ⟨b, off, none⟩ = some (.int .i64 i) := Sl.cell (hA.pull 2 : SatL A (Sl _ _ _ :: _)) (i := 0) (x := .int .i64 i) rfl
  have c4D : ∀ val, (D val).cell? ⟨pb, 4, none⟩ = some (.map (some wm)) := fun val => ((hD val).pull 4 : SatL _ (SchedC _ _ _ _ _ _ _ :: _)).cell (i := 4) rfl
  have ceD : ∀ val, (D val).cell? ⟨b, off, none⟩ = some (.int .i64 i) := fun val => Sl.cell ((hD val).pull 2 : SatL _ (Sl _ _ _ :: _)) (i := 0) (x := .int .i64 i) rfl
  have hfin : ∀ (w7 : World) (val : Value), SatL w7 (MapI wm (mdel (mput es2 k val) k) :: MapI hb (mput es k (.int .i64 i)) :: Sl 3 (.slice (some ⟨b, off, none⟩) (0 + 1) c) (ints [(i : Int)]) :: L :: SchedC pb av qv sm hb wm tv :: Sl 90 av (S.all.map wptr) :: Sl 3 qv (ints S.queue) :: MapRows sm S.sl :: Sl 3 tv (ints S.timers) :: big WkR S.all :: l) →
      w7.cell? ⟨b, off, none⟩ = some (.int .i64 i) ∧ SatL w7 (SchedR pb { S with hold := upf S.hold k (some (i : Int)), wait := upf S.wait k [] } :: l) := by
    intro w7 val h10
    refine ⟨Sl.cell (h10.pull 2 : SatL _ (Sl _ _ _ :: _)) (i := 0) (x := .int .i64 i) rfl, ?_⟩
    rw [mdel_put] at h10
    have h11 := bdel _ _ (h10.bring [0, 3])
    have h12 := hold_put he (h11.pull 1 : SatL w7 (MapI hb _ :: _))
    exact Sched_open.2 ⟨av, qv, sm, hb, wm, tv, h12.to⟩
  clear hlk hs1 hl1 hl2 hh h4 h5 hA hB hC back bdel he
  have hcc : c = 1 ∨ 1 < c := by omega
  have hD' := hid hD
  clear hD
  have hF := hid hfin
  clear hfin
  rcases hcc with hcc | hcc
  · subst hcc
    go_region
    all_goals
      go_wp2_with (first
        | (refine wpList_delete_sl rfl (.tmp 69) (.tmp 70) rfl key_rows rfl (hD'.out _) rfl ?_; intro w7 h10; obtain ⟨ce7, h11⟩ := hF.out _ _ h10)
        | (go_at_call 36; (with_reducible refine (hrdy _ h11).mono ?_); rintro e w8 ⟨v, rfl, rfl, hs8⟩))
      go_ret
      exact Ret.mk (by rw [Hq.out]; exact ⟨rfl, hs8⟩)
  · go_region
    all_goals
      go_wp2_with (first
        | (refine wpList_delete_sl rfl (.tmp 69) (.tmp 70) rfl key_rows rfl (hD'.out _) rfl ?_; intro w7 h10; obtain ⟨ce7, h11⟩ := hF.out _ _ h10)
        | (go_at_call 36; (with_reducible refine (hrdy _ h11).mono ?_); rintro e w8 ⟨v, rfl, rfl, hs8⟩))
      go_ret
      exact Ret.mk (by rw [Hq.out]; exact ⟨rfl, hs8⟩)
end
end Go.Proofs.Ytcehhkhcofokkaa
