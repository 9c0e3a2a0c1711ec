/- ready, wait, Spawn, New of the scheduler; its maps to rows. -/
import Derived.Test.YtcehhkhcofokkaaSched
namespace Go.Proofs.Ytcehhkhcofokkaa
open Go.RowKit
set_option linter.unusedVariables false

def SchedS.setSt (S : SchedS) (i : Nat) (st : Int) : SchedS := { S with all := S.all.modify i fun x => { x with state := st } }
def SchedS.rdy (S : SchedS) (i : Nat) : SchedS := { S.setSt i 1 with queue := S.queue ++ [(i : Int)] }
def SchedS.rest (S : SchedS) (i : Nat) (st : Int) : SchedS := { S.setSt i st with queue := S.queue.filter fun x => !(x == (i : Int)) }
def upf {α : Type} (f : Int → α) (k : Int) (v : α) : Int → α := fun j => if j = k then v else f j

theorem modify_set {α : Type} {xs : List α} {i : Nat} {x : α} (f : α → α) (hx : xs[i]? = some x) : xs.modify i f = xs.set i (f x) := by
  haveI : Inhabited α := ⟨x⟩
  rw [List.modify_eq_set, hx]; rfl

section
variable {w : World} {l : List HP} {pb : Nat} {S : SchedS}

/-- a worker's new state, in its cell -/
theorem set_state {i : Nat} {x : Wk} {L : List HP} (hx : S.all[i]? = some x) (st : Int) (h : SatL w (big WkR S.all :: L)) :
    SatL (w.setCell ⟨x.wb, 1, none⟩ (.int .i64 st)) (big WkR (S.setSt i st).all :: L) := by
  have hi : i < S.all.length := (List.getElem?_eq_some_iff.1 hx).1
  have h1 := ((big_get hx).1 h).set (i := 1) (.int .i64 st)
  have h2 := big_put (f := WkR) (y := { x with state := st }) hi h1
  unfold SchedS.setSt
  rw [modify_set _ hx]
  exact h2
theorem setSt_ptrs {i : Nat} {x : Wk} (hx : S.all[i]? = some x) (st : Int) : (S.setSt i st).all.map wptr = S.all.map wptr := by
  unfold SchedS.setSt
  rw [modify_set _ hx]
  exact wptr_set hx rfl

set_option maxHeartbeats 400000 in
theorem ready_ok (h : SatL w (SchedR pb S :: l)) {i : Nat} {x : Wk} (hx : S.all[i]? = some x) (ha : S.all.length < 1000000) (hq : S.queue.length < 1000000) :
    Calls Try.prog 36 #[.pointer (some ⟨pb, 0, none⟩), .int .i64 i] w (Ret (UnitPost (SchedR pb (S.rdy i) :: l))) := by
  obtain ⟨qv, sm, hm, wm, tv, n, c, b, off, h1, c0, c1, f1, g1, g2, g3, g4, g5, g6, g7, g8, g9⟩ := at_all h hx
  have f9 := g9 1
  have s1 := set_state hx 1 (h1.pull 7 : SatL w (big WkR S.all :: _))
  have c1' := (s1.pull 1 : SatL _ (SchedC _ _ _ _ _ _ _ :: _)).cell (i := 1) rfl
  have hsz : (w.setCell ⟨x.wb, 1, none⟩ (.int .i64 1)).heap.size = w.heap.size := by simp
  have s2 := (s1.pull 3 : SatL _ (Sl _ _ _ :: _)).allocN (.cells #[.int .i64 i] 3) hsz.symm
  clear hsz
  have s3 : SatL _ (SlK 3 1 qv S.queue.length (ints S.queue) :: _) := Sl.toK (s2.pull 1 : SatL _ (Sl _ _ _ :: _)) (ints_len _)
  have sx := SrcOk.ofCl (k := 1) (n := 1) elem_int.under s2 rfl 1
  have hone : ∀ y ∈ (#[Value.int .i64 (i : Int)] : Array Value).toList, y.oneCell' = true := by simp [Value.oneCell']
  have hbb : (S.queue.length + 1) * 8 ≤ 140737488355328 := by omega
  have h63 : S.queue.length + 1 ≤ maxLen := by unfold maxLen; omega
  have Hp := hid (setSt_ptrs hx 1)
  clear h1 hx s1 s2
  go_enter Try.func36, Try.ntmps36
  go_wp2_with (refine wpList_append_sl rfl (.tmp 17) (.tmp 19) rfl elem_int rfl s3 rfl sx hone hbb h63 ?_; intro v' w' h6 _; obtain ⟨a', n', c', rfl⟩ := SlK.val h6; have f7 := (h6.pull 3 : SatL w' (SchedC _ _ _ _ _ _ _ :: _)).free 1; have d7 := (h6.pull 3 : SatL w' (SchedC _ _ _ _ _ _ _ :: _)).cell (i := 1) rfl)
  go_end0
  refine Ret.mk ⟨rfl, Sched_open.2 ⟨.slice (some ⟨b, off, none⟩) n c, .slice a' n' c', sm, hm, wm, tv, ?_⟩⟩
  have h7 := (h6.pull 3 : SatL w' (SchedC _ _ _ _ _ _ _ :: _)).set (i := 1) (.slice a' n' c')
  have h8 := SatL.tail (h7.pull 2)
  have h9 := (Sl.ofK (h8.pull 1)).bring [1, 3, 0, 4, 5, 6, 7, 2]
  unfold SchedO SchedS.rdy
  simp only
  have e : ints (S.queue ++ [(i : Int)]) = ints S.queue ++ [.int .i64 i] := by simp [ints]
  rw [Hp.out, e]
  exact h9

set_option maxHeartbeats 400000 in
theorem wait_ok (h : SatL w (SchedR pb S :: l)) {i : Nat} {x : Wk} (hx : S.all[i]? = some x) (st : Int) :
    Calls Try.prog 35 #[.pointer (some ⟨pb, 0, none⟩), .int .i64 i, .int .i64 st] w (Ret (UnitPost (SchedR pb (S.rest i st) :: l))) := by
  obtain ⟨qv, sm, hm, wm, tv, n, c, b, off, h1, c0, c1, f1, g1, g2, g3, g4, g5, g6, g7, g8, g9⟩ := at_all h hx
  have hwo := without_ok (h1.pull 2 : SatL w (Sl 3 qv (ints S.queue) :: _)) i
  have Hp := hid (setSt_ptrs hx st)
  clear c1
  obtain ⟨qa, qn, qc, rfl⟩ := Sl.val (h1.pull 2 : SatL w (Sl _ _ _ :: _))
  have c1 := h1.cell (i := 1) rfl
  clear g5 g6 g7 g8 g9 c0 f1 h1
  go_enter Try.func35, Try.ntmps35
  go_wp2_with (refine hwo.mono ?_; rintro e w' ⟨v, rfl, hs'⟩; obtain ⟨a2, n2, c2, rfl⟩ := Sl.val hs'; have hs1 := (SatL.pull hs' 1 : SatL w' (SchedC _ _ _ _ _ _ _ :: _)); have f7 := hs1.free 1; have d7 := hs1.cell (i := 1) rfl; have hs2 := hs1.set (i := 1) (.slice a2 n2 c2); have d0 := hs2.cell (i := 0) rfl; have hs3 : SatL _ (SchedO pb (.slice (some ⟨b, off, none⟩) n c) (.slice a2 n2 c2) sm hm wm tv { S with queue := S.queue.filter fun x => !(x == (i : Int)) } l) := hs2.bring [0, 2, 1, 3, 4, 5, 6, 7]; obtain ⟨k1, k2, k3, k4, b', off', k0, k5, k6, k7, k8, k9⟩ := at_worker (x := x) (i := i) hs3 hx; cases k0; unfold wptr at k5; have k10 := k9 1)
  go_end0
  refine Ret.mk ⟨rfl, Sched_open.2 ⟨.slice (some ⟨b, off, none⟩) n c, .slice a2 n2 c2, sm, hm, wm, tv, ?_⟩⟩
  have h9 := (set_state hx st (hs3.pull 7 : SatL _ (big WkR S.all :: _))).bring [1, 2, 3, 4, 5, 6, 7, 0]
  unfold SchedO SchedS.rest
  simp only
  rw [Hp.out]
  exact h9
end
end Go.Proofs.Ytcehhkhcofokkaa
