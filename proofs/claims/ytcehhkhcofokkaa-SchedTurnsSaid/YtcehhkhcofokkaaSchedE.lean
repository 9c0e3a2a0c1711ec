/- New, Spawn, Ready, Holder, Lock of the scheduler. -/
import Derived.Test.YtcehhkhcofokkaaSchedD
namespace Go.Proofs.Ytcehhkhcofokkaa
open Go.RowKit
set_option linter.unusedVariables false

def SchedS.new : SchedS := ⟨[], [], fun _ => [], fun _ => none, fun _ => [], []⟩

section
variable {w : World} {l : List HP} {pb : Nat} {S : SchedS}

theorem big_snoc {α : Type} {f : α → HP} {xs : List α} {x : α} (h : SatL w (f x :: big f xs :: l)) : SatL w (big f (xs ++ [x]) :: l) :=
  big_mid.2 (by rw [List.append_nil]; exact h)
theorem rows_new {n c : Nat} (h : SatL w (pt n (.map #[] c) :: l)) : SatL w (MapRows n (fun _ => []) :: l) :=
  sat_rows.2 ⟨[], rfl, (big_nil.2 (SatL.pull (MapI.made h) 0)).swap⟩
theorem sat_hold {m : Nat} {f : Int → Option Int} : SatL w (MapH m f :: l) ↔ ∃ es, (∀ k, mget es k = (f k).map (.int .i64)) ∧ SatL w (MapI m es :: l) := by
  simp only [MapH, sat_ex, sat_sep, List.cons_append, List.nil_append, sat_pur]
theorem hold_new {n c : Nat} (h : SatL w (pt n (.map #[] c) :: l)) : SatL w (MapH n (fun _ => none) :: l) := sat_hold.2 ⟨[], fun _ => rfl, MapI.made h⟩

theorem new_ok (h : SatL w l) : Calls Try.prog 20 #[] w (Ret fun v w' => ∃ pb, v = .pointer (some ⟨pb, 0, none⟩) ∧ SatL w' (SchedR pb SchedS.new :: l)) := by
  have hmm := @run_makeMap Try.prog
  go_enter Try.func20, Try.ntmps20
  go_wp2
  go_ret
  refine Ret.mk ⟨w.heap.size + 1 + 1 + 1, rfl, Sched_open.2 ⟨.slice none 0 0, .slice none 0 0, w.heap.size, w.heap.size + 1, w.heap.size + 1 + 1, .slice none 0 0, ?_⟩⟩
  have h1 := rows_new (h.alloc (.map #[] 0))
  have h2 := hold_new (h1.allocN (n := w.heap.size + 1) (.map #[] 0) (by simp))
  have h3 := rows_new (h2.allocN (n := w.heap.size + 1 + 1) (.map #[] 0) (by simp))
  have h4 := h3.allocN (n := w.heap.size + 1 + 1 + 1) (.cells #[.slice none 0 0, .slice none 0 0, .map (some w.heap.size), .map (some (w.heap.size + 1)), .map (some (w.heap.size + 1 + 1)), .slice none 0 0] 95) (by simp)
  have h5 := big_nil (f := WkR).2 h4
  have h6 := Sl_nil (T := 3) (Sl_nil (T := 3) (Sl_nil (T := 90) h5))
  exact h6.bring [4, 2, 0, 7, 6, 5, 1, 3]

set_option maxHeartbeats 400000 in
theorem spawn_ok (h : SatL w (SchedR pb S :: l)) (ty : Nat) (tv : Value) (ha : S.all.length + 1 < 1000000) (hq : S.queue.length < 1000000) :
    Calls Try.prog 21 #[.pointer (some ⟨pb, 0, none⟩), .iface ty tv] w (Ret fun v w' => v = .int .i64 S.all.length ∧ ∃ wb,
      SatL w' (SchedR pb { S with all := S.all ++ [⟨wb, .iface ty tv, 1, 0⟩], queue := S.queue ++ [(S.all.length : Int)] } :: l)) := by
  obtain ⟨av, qv, sm, hb, wm, tv', h1⟩ := Sched_open.1 h
  have c0 := h1.cell (i := 0) rfl
  have k1 := h1.alloc (.cells #[.iface ty tv, .int .i64 0, .int .i64 0] 89)
  have k2 := k1.allocN (n := w.heap.size + 1) (.cells #[.pointer (some ⟨w.heap.size, 0, none⟩)] 90) (by simp)
  have c0' := (k2.pull 2 : SatL _ (SchedC _ _ _ _ _ _ _ :: _)).cell (i := 0) rfl
  have s3 := Sl.toK (k2.pull 3 : SatL _ (Sl _ _ _ :: _)) (List.length_map _)
  have sx := SrcOk.ofCl (k := 1) (n := 1) elem_worker.under k2 rfl 1
  have hone : ∀ y ∈ (#[Value.pointer (some ⟨w.heap.size, 0, none⟩)] : Array Value).toList, y.oneCell' = true := by simp [Value.oneCell']
  have hbb : (S.all.length + 1) * 8 ≤ 140737488355328 := by omega
  have h63 : S.all.length + 1 ≤ maxLen := by unfold maxLen; omega
  have hz : ((S.all.length : Int) + 1) - 1 = S.all.length := by omega
  clear h h1 k1 k2
  go_enter Try.func21, Try.ntmps21
  have t1 : True := trivial
  go_wp2_with (first
    | (have _t := t1; refine wpList_append_sl rfl (.tmp 10) (.tmp 14) rfl elem_worker rfl s3 rfl sx hone hbb h63 ?_; clear t1; intro v' w3 h6 _; obtain ⟨a', c', rfl, hc1, hc2⟩ := SlK.valn h6; have h7 := (h6.pull 3 : SatL w3 (SchedC _ _ _ _ _ _ _ :: _)); have f7 := h7.free 0; have d7 := h7.cell (i := 0) rfl; have h8 := h7.set (i := 0) (.slice a' (S.all.length + 1) c'); have d8 := h8.cell (i := 0) rfl)
    | fail "no")
  have h9 := SatL.tail (h8.bring [2, 3, 9, 0, 1])
  have h9b := big_snoc (f := WkR) (x := ⟨w.heap.size, .iface ty tv, 0, 0⟩) h9
  have h10 := h9b.bring [1, 2, 3, 4, 5, 6, 7, 0]
  have e2 : (S.all ++ [(⟨w.heap.size, .iface ty tv, 0, 0⟩ : Wk)]).map wptr = S.all.map wptr ++ [.pointer (some ⟨w.heap.size, 0, none⟩)] := by simp [wptr]
  have h12 := (Sl.ofK (h10.pull 1)).bring [1, 0]
  rw [← e2] at h12
  have h11 : SatL _ (SchedR pb { S with all := S.all ++ [⟨w.heap.size, .iface ty tv, 0, 0⟩] } :: l) :=
    Sched_open.2 ⟨.slice a' (S.all.length + 1) c', qv, sm, hb, wm, tv', h12⟩
  have hg : (S.all ++ [⟨w.heap.size, .iface ty tv, 0, 0⟩])[S.all.length]? = some ⟨w.heap.size, .iface ty tv, 0, 0⟩ := by simp
  have hrd := ready_ok h11 hg (by simp; omega) hq
  refine hrd.mono ?_
  rintro e w4 ⟨v, rfl, rfl, hs⟩
  go_wp2
  go_ret
  refine Ret.mk ⟨rfl, w.heap.size, ?_⟩
  have e : (S.all ++ [(⟨w.heap.size, .iface ty tv, 0, 0⟩ : Wk)]).modify S.all.length (fun x => { x with state := 1 }) = S.all ++ [⟨w.heap.size, .iface ty tv, 1, 0⟩] := by
    rw [modify_set _ hg]; simp
  unfold SchedS.rdy SchedS.setSt at hs
  simp only [e] at hs
  exact hs

/-- what is cloned: the same numbers in a slice of its own -/
theorem clone_ints {v : Value} {xs : List Int} (h : SatL w (Sl 3 v (ints xs) :: l)) (hb : xs.length ≤ 1000000) :
    Calls Try.prog 37 #[v] w (Ret (SlPost 3 (ints xs) (Sl 3 v (ints xs) :: l))) := by
  have hnil := fun (w : World) => Lib.run_eql_slice_nil (P := Try.prog) w 22 3 none 0 0 0 0 Try.underlying22
  have h1 := ints_one xs
  have hb : (ints xs).length ≤ 1000000 := by rw [ints_len]; exact hb
  generalize ints xs = ys at *
  rcases Sl.form h with ⟨rfl, rfl⟩ | ⟨b, off, cap, rfl, h2, h3⟩
  · go_enter Try.func37, Try.ntmps37
    go_wp2
    go_ret
    exact Ret.mk (Sl_nil h)
  · have hnn := fun (w : World) => Lib.run_eql_slice_nil (P := Try.prog) w 22 3 (some ⟨b, off, none⟩) ys.length cap 0 0 Try.underlying22
    have h4 : SatL (w.alloc (.cells #[] 3)) (SlK 3 1 (.slice (some ⟨w.heap.size, 0, none⟩) 0 0) 0 [] :: Sl 3 (.slice (some ⟨b, off, none⟩) ys.length cap) ys :: l) :=
      sat_SlK.2 (.inr ⟨w.heap.size, 0, 0, #[], ⟨rfl, Nat.le_refl _, by decide, rfl, by simp, rfl⟩, h.alloc _⟩)
    have h5 := SrcOk.ofSl elem_int.under (h4.pull 1)
    have hbb : (0 + ys.length) * 8 ≤ 140737488355328 := by omega
    have h63 : 0 + ys.length ≤ maxLen := by unfold maxLen; omega
    go_enter Try.func37, Try.ntmps37
    go_wp2_with (refine wpList_append_sl rfl (.tmp 5) (.tmp 6) rfl elem_int rfl h4 rfl h5 h1 hbb h63 ?_; intro v' w' h6 _)
    go_ret
    have h7 := Sl.ofK h6
    exact Ret.mk (by unfold SlPost; simpa using h7)

theorem queue_ok (h : SatL w (SchedR pb S :: l)) (hq : S.queue.length < 1000000) :
    Calls Try.prog 15 #[.pointer (some ⟨pb, 0, none⟩)] w (Ret (SlPost 3 (ints S.queue) (SchedR pb S :: l))) := by
  obtain ⟨av, qv, sm, hb, wm, tv, h1⟩ := Sched_open.1 h
  have c1 := h1.cell (i := 1) rfl
  have hc := clone_ints (h1.pull 2 : SatL w (Sl 3 qv (ints S.queue) :: _)) (by omega)
  obtain ⟨a, n, c, rfl⟩ := Sl.val (h1.pull 2 : SatL w (Sl _ _ _ :: _))
  go_enter Try.func15, Try.ntmps15
  go_wp2_with ((with_reducible refine hc.mono ?_); rintro e w' ⟨v, rfl, hs'⟩)
  go_ret
  have h1' : SatL w' (Sl 3 v (ints S.queue) :: Sl 3 (.slice a n c) (ints S.queue) :: SchedC pb av (.slice a n c) sm hb wm tv :: _) := hs'
  have h2 : SatL w' (SchedR pb S :: Sl 3 v (ints S.queue) :: l) := Sched_open.2 ⟨av, .slice a n c, sm, hb, wm, tv, h1'.bring [2, 3, 1, 4, 5, 6, 7, 8, 0]⟩
  exact Ret.mk h2.swap

theorem holder_ok (h : SatL w (SchedR pb S :: l)) (k : Int) :
    Calls Try.prog 18 #[.pointer (some ⟨pb, 0, none⟩), .int .i64 k] w (Ret fun v w' => SatL w' (SchedR pb S :: l) ∧ v = .tuple #[.int .i64 ((S.hold k).getD 0), .bool (S.hold k).isSome]) := by
  obtain ⟨av, qv, sm, hb, wm, tv, h1⟩ := Sched_open.1 h
  have c3 := h1.cell (i := 3) rfl
  obtain ⟨es, he, h2⟩ := sat_hold.1 (h1.pull 4 : SatL w (MapH hb S.hold :: _))
  have hr := run_lookup_ok_sl key_hold h2 k
  rw [he] at hr
  have e1 : ((S.hold k).map (Value.int .i64)).getD (.int .i64 0) = .int .i64 ((S.hold k).getD 0) := by cases S.hold k <;> rfl
  have e2 : ((S.hold k).map (Value.int .i64)).isSome = (S.hold k).isSome := by cases S.hold k <;> rfl
  rw [e1, e2] at hr
  generalize (S.hold k).getD 0 = x at *
  generalize (S.hold k).isSome = y at *
  clear e1 e2
  go_enter Try.func18, Try.ntmps18
  go_wp2
  go_ret2
  exact Ret.mk ⟨h, rfl⟩
end
end Go.Proofs.Ytcehhkhcofokkaa
