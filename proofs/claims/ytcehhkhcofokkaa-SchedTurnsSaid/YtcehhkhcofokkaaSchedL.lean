/- slices.Index, slices.Contains at []int; Pick of the scheduler over whatever a worker's step does. -/
import Derived.Test.YtcehhkhcofokkaaSchedK
import Derived.Test.YtcehhkhcofokkaaStore
namespace Go.Proofs.Ytcehhkhcofokkaa
open Go.RowKit
set_option linter.unusedVariables false

theorem st_ints (a : Option Addr) (n c : Nat) : ∀ (w : World) (p : Addr), (Instr.storeAt 22 (.pointer (some p)) (.slice a n c)).run Try.prog w = (store p (.slice a n c)).run Try.prog w := fun _ _ => by kernel_rfl
theorem st_int (n : Int) : ∀ (w : World) (p : Addr), (Instr.storeAt 3 (.pointer (some p)) (.int .i64 n)).run Try.prog w = (store p (.int .i64 n)).run Try.prog w := fun _ _ => by kernel_rfl

section
variable {w : World} {l : List HP} {pb : Nat} {S : SchedS}

theorem ints_snoc' (xs : List Int) (y : Int) : ints (xs ++ [y]) = ints xs ++ [.int .i64 y] := by simp [ints]
def MemPost (l : List HP) (xs : List Int) (y : Int) (v : Value) (w : World) : Prop := ∃ z : Int, v = .int .i64 z ∧ (decide (0 ≤ z) = decide (y ∈ xs)) ∧ SatL w l
set_option maxHeartbeats 1000000 in
theorem index_int {v : Value} {xs : List Int} (h : SatL w (Sl 3 v (ints xs) :: l)) (y : Int) :
    Calls Try.prog 62 #[v, .int .i64 y] w (Ret (MemPost (Sl 3 v (ints xs) :: l) xs y)) := by
  obtain ⟨a, c, rfl, hc1, hc2⟩ := Sl.valn h (ints_len xs)
  have hl : xs.length ≤ 9223372036854775807 := by omega
  go_enter Try.func62, Try.ntmps62
  go_wp2
  go_loopw [8] (fun i wr => ∃ k : Nat, k ≤ xs.length ∧ i = .int .i64 k ∧ (¬ y ∈ xs.take k) ∧ SatL wr (Sl 3 (.slice a xs.length c) (ints xs) :: l)) (fun i _ => xs.length - (intOf i).toNat)
  case atStart => exact ⟨0, by omega, rfl, by simp, h⟩
  case round =>
    obtain ⟨k, hk, rfl, hn, hs⟩ := hrel
    by_cases hlt : k < xs.length
    · obtain ⟨b, off, rfl⟩ := Sl.addr hs (by omega)
      have hx : xs[k]? = some xs[k] := List.getElem?_eq_getElem hlt
      obtain ⟨x, hxk⟩ : ∃ x, x = xs[k] := ⟨_, rfl⟩
      rw [← hxk] at hx
      have q1 := Sl.cell hs (i := k) (x := .int .i64 x) (by rw [ints, List.getElem?_map, hx]; rfl)
      have Hx := hid hx
      clear hx hxk
      by_cases he : y = x
      · subst he
        go_wp2
        go_ret
        exact Ret.mk ⟨_, rfl, by have := List.mem_of_getElem? Hx.out; simp [this], hs⟩
      · have he' : (y == x) = false := by simpa using he
        have Hn := hid (show ¬ y ∈ xs.take (k + 1) by rw [List.take_add_one, Hx.out]; simp [hn, he])
        clear hn he
        go_wp2
        go_roundw
        case rel => exact ⟨k + 1, by omega, by go_num, Hn.out, hs⟩
        case measure => simp [intOf]; omega
    · obtain rfl : k = xs.length := by omega
      rw [List.take_length] at hn
      go_wp2
      go_ret
      exact Ret.mk ⟨_, rfl, by simp [hn], hs⟩
theorem contains_int {v : Value} {xs : List Int} (h : SatL w (Sl 3 v (ints xs) :: l)) (y : Int) :
    Calls Try.prog 41 #[v, .int .i64 y] w (Ret (BoolPost (Sl 3 v (ints xs) :: l) (decide (y ∈ xs)))) := by
  have hi := index_int h y
  obtain ⟨a, c, rfl, hc1, hc2⟩ := Sl.valn h (ints_len xs)
  go_enter Try.func41, Try.ntmps41
  go_wp2_with ((with_reducible refine hi.mono ?_); rintro e w1 ⟨v, rfl, z, rfl, hz, hs⟩; have Hz := hid hz; clear hz)
  go_ret
  exact Ret.mk ⟨congrArg Value.bool Hz.out, hs⟩

/-- the queue without one -/
def SchedS.unq (S : SchedS) (id : Int) : SchedS := { S with queue := S.queue.filter fun x => !(x == id) }
/-- behind a step -/
def SchedS.stepped (S : SchedS) (id : Int) (st : Int) : SchedS := if st = 1 ∧ ¬ id ∈ S.queue then { S with queue := S.queue ++ [id] } else S

def PPost (pb : Nat) (l : List HP) (id : Int) (S : SchedS) (v : Value) (w : World) : Prop := v = .tuple #[.int .i64 id, .int .i64 0] ∧ SatL w (SchedR pb S :: l)

theorem pick_none (h : SatL w (SchedR pb S :: l)) (hq : S.queue = []) (i : Int) :
    Calls Try.prog 19 #[.pointer (some ⟨pb, 0, none⟩), .int .i64 i] w (Ret fun v w' => v = .tuple #[.int .i64 0, .int .i64 2] ∧ SatL w' (SchedR pb S :: l)) := by
  obtain ⟨av, qv, sm, hm, wm, tv, h1⟩ := Sched_open.1 h
  have c1 := h1.cell (i := 1) rfl
  obtain ⟨a, c, rfl, hc1, hc2⟩ := Sl.valn (h1.pull 2 : SatL w (Sl _ _ _ :: _)) (m := 0) (by rw [hq]; rfl)
  go_enter Try.func19, Try.ntmps19
  go_wp2
  go_ret2
  exact Ret.mk ⟨rfl, h⟩

set_option maxRecDepth 100000 in
set_option maxHeartbeats 2000000 in
theorem pick_ok (h : SatL w (SchedR pb S :: l)) (i : Int) (p id : Nat) (x x2 : Wk) (ty F tb : Nat) (S2 : SchedS) (l2 : List HP) (hp : ((i.tmod S.queue.length + S.queue.length).tmod S.queue.length) = (p : Int)) (hid0 : S.queue[p]? = some (id : Int)) (hx : S.all[id]? = some x) (hT : x.task = .iface ty (.pointer (some ⟨tb, 0, none⟩)))
    (ha : S.all.length < 1000000) (hq : S.queue.length < 1000000)
    (hna : ∀ (a : Addr) (w : World), (nilAhead 263 ty (.pointer (some a)) "Step").run Try.prog w = .ok (some false) w)
    (hme : ∀ (a : Addr) (w : World), (method 263 ty (.pointer (some a)) "Step").run Try.prog w = .ok (F, .pointer (some a)) w)
    (hcf : CallOk Try.prog F)
    (hstep : ∀ w' : World, SatL w' (SchedR pb (S.unq id) :: l) → Calls Try.prog F #[.pointer (some ⟨tb, 0, none⟩), .pointer (some ⟨pb, 0, none⟩), .int .i64 id] w' (Ret (UnitPost (SchedR pb S2 :: l2))))
    (hx2 : S2.all[id]? = some x2) (ha2 : S2.all.length < 1000000) (hq2 : S2.queue.length < 1000000) :
    Calls Try.prog 19 #[.pointer (some ⟨pb, 0, none⟩), .int .i64 i] w (Ret (PPost pb l2 id (S2.stepped id x2.state))) := by
  obtain ⟨av, qv, sm, hm, wm, tv, h1⟩ := Sched_open.1 h
  have c1 := h1.cell (i := 1) rfl
  have hpl : p < S.queue.length := (List.getElem?_eq_some_iff.1 hid0).1
  obtain ⟨a, c, rfl, hc1, hc2⟩ := Sl.valn (h1.pull 2 : SatL w (Sl _ _ _ :: _)) (m := S.queue.length) (ints_len _)
  obtain ⟨b, off, rfl⟩ := Sl.addr (h1.pull 2 : SatL w (Sl _ _ _ :: _)) (by omega)
  have q1 := Sl.cell (h1.pull 2 : SatL w (Sl _ _ _ :: _)) (i := p) (x := .int .i64 id) (by rw [ints, List.getElem?_map, hid0]; rfl)
  have hwo : ∀ n, Calls _ _ _ (w.drewN n) _ := fun n => without_ok (w := w.drewN n) (h1.pull 2 : SatL w (Sl 3 _ (ints S.queue) :: _)) id
  generalize hN : S.queue.length = N at *
  have hr1 : i.tmod N < N := Int.tmod_lt_of_pos i (by omega)
  have hr2 : -(N : Int) < i.tmod N := Int.lt_tmod_of_pos i (by omega)
  have hw1 : IntKind.i64.wrap (i.tmod N + N) = i.tmod N + N := IntWalk.i64_in _ (by omega)
  have hpe : (i.tmod N + N) % (N : Int) = p := by rw [← hp, Int.tmod_eq_emod_of_nonneg (a := i.tmod N + N) (by omega)]
  have hN0 : ((N : Int) == 0) = false := by simp; omega
  have hpN : (p : Int) < N := by omega
  clear h
  unfold CallOk at hcf
  have hsz : ∀ (w2 : World) (v : Value), SatL w2 (Sl 3 v (ints (S.queue.filter fun x => !(x == (id : Int)))) :: cl pb 95 #[av, v, .map (some sm), .map (some hm), .map (some wm), tv] :: Sl 90 av (S.all.map wptr) :: MapRows sm S.sl :: MapH hm S.hold :: MapRows wm S.wait :: Sl 3 tv (ints S.timers) :: big WkR S.all :: l) → SatL w2 (SchedR pb (S.unq id) :: l) :=
    fun w2 v h => Sched_open.2 ⟨av, v, sm, hm, wm, tv, h.bring [1, 2, 0, 3, 4, 5, 6, 7]⟩
  by_cases hs1 : x2.state = 1
  · by_cases hmem : (id : Int) ∈ S2.queue
    · have Hq := hid (show S2.stepped id x2.state = S2 by unfold SchedS.stepped; rw [if_neg (by simp [hmem])])
      have hcn := fun (w' : World) (l' : List HP) (v : Value) (h : SatL w' (Sl 3 v (ints S2.queue) :: l')) => contains_int h (id : Int)
      simp only [hmem, decide_true] at hcn
      clear hmem
      go_enter Try.func19, Try.ntmps19
      go_wp2_with (fail "stop")
      go_quiet (fail)
      go_wp2_with (first
    | (go_at_call 38; (with_reducible refine (hwo _).mono ?_); rintro e w2 ⟨v, rfl, hs2⟩; obtain ⟨a2, n2, c2, rfl⟩ := Sl.val hs2; have hs3 := (SatL.pull hs2 1 : SatL w2 (SchedC _ _ _ _ _ _ _ :: _)); have t0 : True := trivial)
    | (have _t := t0; refine wpList_store_cl rfl (.tmp 36) (.tmp 34) rfl rfl rfl hs3 (of_decide_eq_true rfl) rfl (st_ints _ _ _) ?_; clear t0; intro w3 hs4; have hs5 := hsz w3 _ hs4.swap; obtain ⟨qv3, sm3, hm3, wm3, tv3, n3, c3, b3, off3, h13, d0, d1, f1, g1, g2, g3, g4, g5, g6, g7, g8, g9⟩ := at_all hs5 hx; rw [hT] at g6)
    | ((with_reducible refine (hstep _ hs5).mono ?_); rintro e w4 ⟨v4, rfl, rfl, hs6⟩; clear d0 d1 f1 g1 g2 g3 g4 g5 g6 g7 g8 g9; obtain ⟨qv4, sm4, hm4, wm4, tv4, n4, c4, b4, off4, h14, d0, d1, f1, g1, g2, g3, g4, g5, g6, g7, g8, g9⟩ := at_all hs6 hx2; rw [hs1] at g7)
    | (go_at_call 41; (with_reducible refine (hcn _ _ _ (h14.pull 2)).mono ?_); rintro e w5 ⟨v, rfl, rfl, hs7⟩))
      go_ret2
      exact Ret.mk ⟨rfl, by rw [Hq.out]; exact Sched_open.2 ⟨_, qv4, sm4, hm4, wm4, tv4, SatL.bring hs7 [1, 2, 0]⟩⟩
    · have Hq := hid (show S2.stepped id x2.state = { S2 with queue := S2.queue ++ [(id : Int)] } by unfold SchedS.stepped; rw [if_pos ⟨hs1, hmem⟩])
      have hcn := fun (w' : World) (l' : List HP) (v : Value) (h : SatL w' (Sl 3 v (ints S2.queue) :: l')) => contains_int h (id : Int)
      simp only [hmem, decide_false] at hcn
      have b1 : ((ints S2.queue).length + 1) * 8 ≤ 140737488355328 := by rw [ints_len]; omega
      have b8 : 0 < 8 := by omega
      clear hmem
      go_enter Try.func19, Try.ntmps19
      go_wp2_with (fail "stop")
      go_quiet (fail)
      go_wp2_with (first
    | (go_at_call 38; (with_reducible refine (hwo _).mono ?_); rintro e w2 ⟨v, rfl, hs2⟩; obtain ⟨a2, n2, c2, rfl⟩ := Sl.val hs2; have hs3 := (SatL.pull hs2 1 : SatL w2 (SchedC _ _ _ _ _ _ _ :: _)); have t0 : True := trivial)
    | (have _t := t0; refine wpList_store_cl rfl (.tmp 36) (.tmp 34) rfl rfl rfl hs3 (of_decide_eq_true rfl) rfl (st_ints _ _ _) ?_; clear t0; intro w3 hs4; have hs5 := hsz w3 _ hs4.swap; obtain ⟨qv3, sm3, hm3, wm3, tv3, n3, c3, b3, off3, h13, d0, d1, f1, g1, g2, g3, g4, g5, g6, g7, g8, g9⟩ := at_all hs5 hx; rw [hT] at g6)
    | ((with_reducible refine (hstep _ hs5).mono ?_); rintro e w4 ⟨v4, rfl, rfl, hs6⟩; clear d0 d1 f1 g1 g2 g3 g4 g5 g6 g7 g8 g9; obtain ⟨qv4, sm4, hm4, wm4, tv4, n4, c4, b4, off4, h14, d0, d1, f1, g1, g2, g3, g4, g5, g6, g7, g8, g9⟩ := at_all hs6 hx2; rw [hs1] at g7)
    | (go_at_call 41; (with_reducible refine (hcn _ _ _ (h14.pull 2)).mono ?_); rintro e w5 ⟨v, rfl, rfl, hs7⟩; have k1 := (SatL.pull hs7 1 : SatL w5 (SchedC _ _ _ _ _ _ _ :: _)).cell (i := 1) rfl)
    | (at_builtin; refine wpList_push_sl rfl (.tmp 74) (.tmp 76) rfl elem_int b8 rfl hs7 rfl rfl b1 ?_; intro v' w6 h6; obtain ⟨a6, n6, c6, rfl⟩ := Sl.val h6; have hs8 := (SatL.pull h6 1 : SatL w6 (SchedC _ _ _ _ _ _ _ :: _)); have t5 : True := trivial)
    | (have _t := t5; refine wpList_store_cl rfl (.tmp 79) (.tmp 77) rfl rfl rfl hs8 (of_decide_eq_true rfl) rfl (st_ints _ _ _) ?_; clear t5; intro w7 hs9))
      go_ret2
      exact Ret.mk ⟨rfl, by rw [Hq.out]; exact Sched_open.2 ⟨_, .slice a6 n6 c6, sm4, hm4, wm4, tv4, by unfold SchedO; simp only; rw [ints_snoc']; exact SatL.bring hs9 [0, 2, 1]⟩⟩
  · have Hq := hid (show S2.stepped id x2.state = S2 by unfold SchedS.stepped; rw [if_neg (by simp [hs1])])
    go_enter Try.func19, Try.ntmps19
    go_wp2_with (fail "stop")
    go_quiet (fail)
    go_wp2_with (first
    | (go_at_call 38; (with_reducible refine (hwo _).mono ?_); rintro e w2 ⟨v, rfl, hs2⟩; obtain ⟨a2, n2, c2, rfl⟩ := Sl.val hs2; have hs3 := (SatL.pull hs2 1 : SatL w2 (SchedC _ _ _ _ _ _ _ :: _)); have t0 : True := trivial)
    | (have _t := t0; refine wpList_store_cl rfl (.tmp 36) (.tmp 34) rfl rfl rfl hs3 (of_decide_eq_true rfl) rfl (st_ints _ _ _) ?_; clear t0; intro w3 hs4; have hs5 := hsz w3 _ hs4.swap; obtain ⟨qv3, sm3, hm3, wm3, tv3, n3, c3, b3, off3, h13, d0, d1, f1, g1, g2, g3, g4, g5, g6, g7, g8, g9⟩ := at_all hs5 hx; rw [hT] at g6)
    | ((with_reducible refine (hstep _ hs5).mono ?_); rintro e w4 ⟨v4, rfl, rfl, hs6⟩; clear d0 d1 f1 g1 g2 g3 g4 g5 g6 g7 g8 g9; obtain ⟨qv4, sm4, hm4, wm4, tv4, n4, c4, b4, off4, h14, d0, d1, f1, g1, g2, g3, g4, g5, g6, g7, g8, g9⟩ := at_all hs6 hx2))
    go_ret2
    exact Ret.mk ⟨rfl, by rw [Hq.out]; exact hs6⟩
end
end Go.Proofs.Ytcehhkhcofokkaa
