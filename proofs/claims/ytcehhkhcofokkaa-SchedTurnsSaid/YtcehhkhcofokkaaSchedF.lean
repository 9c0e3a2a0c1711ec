/- Lock of the scheduler. -/
import Derived.Test.YtcehhkhcofokkaaSchedE
namespace Go.Proofs.Ytcehhkhcofokkaa
open Go.RowKit
set_option linter.unusedVariables false

def SchedS.lock (S : SchedS) (id k : Int) : (Bool × Int) × SchedS :=
  if S.may id = 0 then
    if (S.hold k).isSome ∧ (S.hold k).getD 0 ≠ id then ((false, 0), { S.rest id.toNat 3 with wait := upf S.wait k (S.wait k ++ [id]) })
    else ((true, 0), { S with hold := upf S.hold k (some id) })
  else ((false, S.may id), S)
def LPost (pb : Nat) (l : List HP) (r : (Bool × Int) × SchedS) (v : Value) (w : World) : Prop := v = .tuple #[.bool r.1.1, .int .i64 r.1.2] ∧ SatL w (SchedR pb r.2 :: l)

section
variable {w : World} {l : List HP} {pb : Nat} {S : SchedS}

theorem hold_put {m : Nat} {f : Int → Option Int} {es : IM} {k id : Int} (he : ∀ k, mget es k = (f k).map (.int .i64)) (h : SatL w (MapI m (mput es k (.int .i64 id)) :: l)) : SatL w (MapH m (upf f k (some id)) :: l) :=
  sat_hold.2 ⟨_, fun j => by rw [mget_put]; unfold upf; split <;> simp [he], h⟩
theorem hold_del {m : Nat} {f : Int → Option Int} {es : IM} {k : Int} (he : ∀ k, mget es k = (f k).map (.int .i64)) (h : SatL w (MapI m (mdel es k) :: l)) : SatL w (MapH m (upf f k none) :: l) :=
  sat_hold.2 ⟨_, fun j => by rw [mget_del]; unfold upf; split <;> simp [he], h⟩

/-- the look-up of who holds a lock -/
theorem hold_look {m : Nat} {f : Int → Option Int} (h : SatL w (MapH m f :: l)) (k : Int) :
    (Instr.lookup 93 (.map (some m)) (.int .i64 k) true).run Try.prog w = .ok (.tuple #[.int .i64 ((f k).getD 0), .bool (f k).isSome]) w := by
  obtain ⟨es, he, h2⟩ := sat_hold.1 h
  have hr := run_lookup_ok_sl key_hold h2 k
  rw [he] at hr
  have e1 : ((f k).map (Value.int .i64)).getD (.int .i64 0) = .int .i64 ((f k).getD 0) := by cases f k <;> rfl
  have e2 : ((f k).map (Value.int .i64)).isSome = (f k).isSome := by cases f k <;> rfl
  rw [e1, e2] at hr
  exact hr

set_option maxRecDepth 100000 in
set_option maxHeartbeats 1600000 in
theorem lock_ok (h : SatL w (SchedR pb S :: l)) (id k : Int) (ha : S.all.length < 1000000) (hl : (S.wait k).length < 1000000) :
    Calls Try.prog 16 #[.pointer (some ⟨pb, 0, none⟩), .int .i64 id, .int .i64 k] w (Ret (LPost pb l (S.lock id k))) := by
  have hm := may_ok h id ha
  by_cases hz : S.may id = 0
  · obtain ⟨i, x, rfl, hx, _⟩ := may_zero hz
    rw [hz] at hm
    by_cases hc : (S.hold k).isSome ∧ (S.hold k).getD 0 ≠ (i : Int)
    · have Hq := hid (show S.lock i k = ((false, 0), { S.rest i 3 with wait := upf S.wait k (S.wait k ++ [(i : Int)]) }) by unfold SchedS.lock; rw [if_pos hz, if_pos hc]; rfl)
      have hw := fun (w1 : World) (h1 : SatL w1 (SchedR pb S :: l)) => wait_ok h1 hx 3
      have hlk : ∀ (w1 : World), SatL w1 (SchedR pb S :: l) → ∃ av qv sm hb wm tv, SatL w1 (SchedO pb av qv sm hb wm tv S l) ∧ (Instr.lookup 93 (.map (some hb)) (.int .i64 k) true).run Try.prog w1 = .ok (.tuple #[.int .i64 ((S.hold k).getD 0), .bool true]) w1 := by
        intro w1 h1
        obtain ⟨av, qv, sm, hb, wm, tv, h2⟩ := Sched_open.1 h1
        have := hold_look (h2.pull 4 : SatL w1 (MapH hb S.hold :: _)) k
        rw [hc.1] at this
        exact ⟨av, qv, sm, hb, wm, tv, h2, this⟩
      have hne := hc.2
      generalize (S.hold k).getD 0 = hh at *
      clear hz hx h hc
      have t1 : True := trivial
      go_enter Try.func16, Try.ntmps16
      go_wp2_with (first
        | (have _t := t1; (with_reducible refine hm.mono ?_); clear t1; rintro e w1 ⟨v, rfl, rfl, hs1⟩; obtain ⟨av0, qv0, sm0, hb0, wm0, tv0, h10, hlk0⟩ := hlk _ hs1; have c30 := h10.cell (i := 3) rfl)
        | ((with_reducible refine (hw _ hs1).mono ?_); rintro e w2 ⟨v, rfl, rfl, hs2⟩)
        | fail "no")
      obtain ⟨av, qv, sm, hb, wm, tv, h1⟩ := Sched_open.1 hs2
      have hrow : SatL w2 (MapRows wm S.wait :: _) := h1.pull 5
      obtain ⟨rv, es, L, hv, h2, back, _, _⟩ := rows_open hrow k
      have h2d := sat_drew.2 h2
      have c2d : w2.drew.cell? ⟨pb, 4, none⟩ = some (.map (some wm)) := (h2d.pull 3 : SatL w2.drew (SchedC _ _ _ _ _ _ _ :: _)).cell (i := 4) rfl
      have al : SatL (w2.alloc (.cells #[.int .i64 (i : Int)] 3)).drew (cl w2.heap.size 3 #[.int .i64 (i : Int)] :: _) := sat_drew.2 (SatL.alloc h2 (.cells #[.int .i64 (i : Int)] 3))
      have hrd : (Instr.lookup 92 (.map (some wm)) (.int .i64 k) false).run Try.prog w2.drew = .ok rv w2.drew := by
        have := run_lookup_sl key_rows (h2d.pull 1 : SatL w2.drew (MapI wm es :: _)) k
        rw [hv] at this; exact this
      have c2a := (al.pull 4 : SatL _ (SchedC _ _ _ _ _ _ _ :: _)).cell (i := 4) rfl
      have hra := run_lookup_sl key_rows (al.pull 2 : SatL _ (MapI wm es :: _)) k
      rw [hv] at hra
      have sx := SrcOk.ofCl (k := 1) (n := 1) elem_int.under al rfl 1
      have s3 := Sl.toK (al.pull 1 : SatL _ (Sl _ _ _ :: _)) (ints_len _)
      have hone : ∀ y ∈ (#[Value.int .i64 (i : Int)] : Array Value).toList, y.oneCell' = true := by simp [Value.oneCell']
      have hbb : ((S.wait k).length + 1) * 8 ≤ 140737488355328 := by omega
      have h63 : (S.wait k).length + 1 ≤ maxLen := by unfold maxLen; omega
      clear h2 h2d hrow h1 hs2 hs1 hw hm al hlk h10 hlk0 c30
      have t2 : True := trivial
      go_region_law (first
        | (have _t := t2; refine step_append_sl rfl (.tmp 45) (.tmp 47) rfl elem_int rfl s3 rfl sx hone hbb h63 ?_; clear t2; intro v' w3 h6 _; have c3 : w3.cell? ⟨pb, 4, none⟩ = some (.map (some wm)) := (SatL.pull h6 4 : SatL w3 (SchedC _ _ _ _ _ _ _ :: _)).cell (i := 4) rfl; obtain ⟨w4, hmu, h7⟩ := run_mapUpdate_sl key_rows (SatL.pull h6 2 : SatL w3 (MapI wm es :: _)) k v')
        | fail "no arm")
      all_goals
        have h8 : SatL w4 (MapI wm (mput es k v') :: SlK 3 1 v' ((S.wait k).length + 1) (ints (S.wait k) ++ [Value.int .i64 (i : Int)]) :: cl w2.heap.size 3 #[.int .i64 (i : Int)] :: L :: _) := h7
        have e : ints (S.wait k ++ [(i : Int)]) = ints (S.wait k) ++ [.int .i64 i] := by simp [ints]
        have h9 := SatL.tail (h8.bring [2, 1, 0])
        have h10 := back w4 v' (S.wait k ++ [(i : Int)]) _ (by rw [e]; exact Sl.ofK h9)
        clear h7 h8 h9 hmu c3 h6
        go_wp2
        go_ret2
        refine Ret.mk ?_
        rw [Hq.out]
        exact ⟨rfl, Sched_open.2 ⟨av, qv, sm, hb, wm, tv, h10.bring [1, 2, 3, 4, 5, 0, 6, 7]⟩⟩
    · have Hq := hid (show S.lock i k = ((true, 0), { S with hold := upf S.hold k (some (i : Int)) }) by unfold SchedS.lock; rw [if_pos hz, if_neg hc])
      have hlk : ∀ (w1 : World), SatL w1 (SchedR pb S :: l) → ∃ av qv sm hb wm tv es, SatL w1 (MapI hb es :: SchedC pb av qv sm hb wm tv :: Sl 90 av (S.all.map wptr) :: Sl 3 qv (ints S.queue) :: MapRows sm S.sl :: MapRows wm S.wait :: Sl 3 tv (ints S.timers) :: big WkR S.all :: l) ∧ (∀ k, mget es k = (S.hold k).map (.int .i64)) ∧ (Instr.lookup 93 (.map (some hb)) (.int .i64 k) true).run Try.prog w1 = .ok (.tuple #[.int .i64 ((S.hold k).getD 0), .bool (S.hold k).isSome]) w1 := by
        intro w1 h1
        obtain ⟨av, qv, sm, hb, wm, tv, h2⟩ := Sched_open.1 h1
        have h3 := hold_look (h2.pull 4 : SatL w1 (MapH hb S.hold :: _)) k
        obtain ⟨es, he, h4⟩ := sat_hold.1 (h2.pull 4 : SatL w1 (MapH hb S.hold :: _))
        exact ⟨av, qv, sm, hb, wm, tv, es, h4, he, h3⟩
      generalize (S.hold k).getD 0 = hh at *
      generalize (S.hold k).isSome = hp at *
      clear hz hx h
      have t1 : True := trivial
      cases hp with
      | false =>
        go_enter Try.func16, Try.ntmps16
        go_wp2_with (first
          | (have _t := t1; (with_reducible refine hm.mono ?_); clear t1; rintro e w1 ⟨v, rfl, rfl, hs1⟩; obtain ⟨av, qv, sm, hb, wm, tv, es, h4, he, hlk0⟩ := hlk _ hs1; have c30 := (h4.pull 1 : SatL w1 (SchedC _ _ _ _ _ _ _ :: _)).cell (i := 3) rfl)
          | (refine wpList_mapUpdate_sl rfl (.tmp 52) (.tmp 53) (.tmp 54) rfl key_hold rfl h4 rfl rfl ?_; intro w2 h5)
          | fail "no")
        go_ret2
        refine Ret.mk ?_
        rw [Hq.out]
        exact ⟨rfl, Sched_open.2 ⟨av, qv, sm, hb, wm, tv, (hold_put he h5).bring [1, 2, 3, 4, 0, 5, 6, 7]⟩⟩
      | true =>
        have hh' : hh = i := by simpa using hc
        subst hh'
        clear hc
        go_enter Try.func16, Try.ntmps16
        go_wp2_with (first
          | (have _t := t1; (with_reducible refine hm.mono ?_); clear t1; rintro e w1 ⟨v, rfl, rfl, hs1⟩; obtain ⟨av, qv, sm, hb, wm, tv, es, h4, he, hlk0⟩ := hlk _ hs1; have c30 := (h4.pull 1 : SatL w1 (SchedC _ _ _ _ _ _ _ :: _)).cell (i := 3) rfl)
          | (refine wpList_mapUpdate_sl rfl (.tmp 52) (.tmp 53) (.tmp 54) rfl key_hold rfl h4 rfl rfl ?_; intro w2 h5)
          | fail "no")
        go_ret2
        refine Ret.mk ?_
        rw [Hq.out]
        exact ⟨rfl, Sched_open.2 ⟨av, qv, sm, hb, wm, tv, (hold_put he h5).bring [1, 2, 3, 4, 0, 5, 6, 7]⟩⟩
  · have Hq := hid (show S.lock id k = ((false, S.may id), S) by unfold SchedS.lock; rw [if_neg hz])
    generalize S.may id = r at *
    go_enter Try.func16, Try.ntmps16
    go_wp2_with ((with_reducible refine hm.mono ?_); rintro e w1 ⟨v, rfl, rfl, hs1⟩)
    go_ret2
    exact Ret.mk (by rw [Hq.out]; exact ⟨rfl, hs1⟩)
end
end Go.Proofs.Ytcehhkhcofokkaa
