/- The scheduler that is owned: its workers, rows and maps; what its small functions do. No condition. -/
import Derived.Test.YtcehhkhcofokkaaFuncsInt
import Derived.Test.YtcehhkhcofokkaaMap
import Derived.RegionTactic
import Derived.Deep.QuietTactic
import Derived.BigQuiet
import Derived.Deep.RegionWith
import Derived.StillTailTactics
import Derived.Deep.RegionLaw
namespace Go.Proofs.Ytcehhkhcofokkaa
open Go.RowKit
set_option linter.unusedVariables false

structure Wk where
  wb : Nat
  task : Value
  state : Int
  left : Int

abbrev WkR (x : Wk) : HP := cl x.wb 89 #[x.task, .int .i64 x.state, .int .i64 x.left]
def wptr (x : Wk) : Value := .pointer (some ⟨x.wb, 0, none⟩)
def ints (xs : List Int) : List Value := xs.map (.int .i64)

/-- a row of a map to rows: key, slice, what stands in it -/
structure Rw where
  k : Int
  v : Value
  xs : List Int

abbrev rim (rs : List Rw) : IM := rs.map fun r => (r.k, r.v)
abbrev RwR (r : Rw) : HP := Sl 3 r.v (ints r.xs)
def rget (rs : List Rw) (k : Int) : List Int := ((rs.find? fun r => r.k == k).map (·.xs)).getD []
/-- a map whose rows are told by f -/
def MapRows (m : Nat) (f : Int → List Int) : HP := ex fun rs => sep [pur (f = rget rs), MapI m (rim rs), big RwR rs]
def MapH (m : Nat) (f : Int → Option Int) : HP := ex fun es => sep [pur (∀ k, mget es k = (f k).map (.int .i64)), MapI m es]

structure SchedS where
  all : List Wk
  queue : List Int
  sl : Int → List Int
  hold : Int → Option Int
  wait : Int → List Int
  timers : List Int

def SchedS.has (S : SchedS) (id : Int) : Bool := decide (0 ≤ id ∧ id < S.all.length)
def SchedS.may (S : SchedS) (id : Int) : Int := if id < 0 then 2 else match S.all[id.toNat]? with
  | none => 2
  | some x => if x.state = 5 then 2 else if x.state = 2 ∨ x.state = 3 ∨ x.state = 4 then 8 else 0

abbrev SchedC (pb : Nat) (av qv : Value) (sm hm wm : Nat) (tv : Value) : HP := cl pb 95 #[av, qv, .map (some sm), .map (some hm), .map (some wm), tv]
abbrev SchedO (pb : Nat) (av qv : Value) (sm hm wm : Nat) (tv : Value) (S : SchedS) (l : List HP) : List HP :=
  SchedC pb av qv sm hm wm tv :: Sl 90 av (S.all.map wptr) :: Sl 3 qv (ints S.queue) :: MapRows sm S.sl :: MapH hm S.hold :: MapRows wm S.wait :: Sl 3 tv (ints S.timers) :: big WkR S.all :: l
def SchedR (pb : Nat) (S : SchedS) : HP := ex fun av => ex fun qv => ex fun sm => ex fun hm => ex fun wm => ex fun tv => sep (SchedO pb av qv sm hm wm tv S [])

section
variable {w : World} {l : List HP} {pb : Nat} {S : SchedS}

theorem Sched_open : SatL w (SchedR pb S :: l) ↔ ∃ av qv sm hm wm tv, SatL w (SchedO pb av qv sm hm wm tv S l) := by
  simp only [SchedR, sat_ex, sat_sep, List.cons_append, List.nil_append]

theorem big_get {α : Type} {f : α → HP} {xs : List α} {i : Nat} {x : α} (hx : xs[i]? = some x) : SatL w (big f xs :: l) ↔ SatL w (f x :: big f (xs.take i ++ xs.drop (i + 1)) :: l) := by
  have hi : i < xs.length := (List.getElem?_eq_some_iff.1 hx).1
  have e : xs = xs.take i ++ x :: xs.drop (i + 1) := by
    have h1 := List.take_append_drop i xs
    rw [List.drop_eq_getElem_cons hi, (List.getElem?_eq_some_iff.1 hx).2] at h1
    exact h1.symm
  conv => lhs; rw [e]
  exact big_mid
theorem big_put {α : Type} {f : α → HP} {xs : List α} {i : Nat} {y : α} (hi : i < xs.length) (h : SatL w (f y :: big f (xs.take i ++ xs.drop (i + 1)) :: l)) : SatL w (big f (xs.set i y) :: l) := by
  rw [List.set_eq_take_append_cons_drop, if_pos hi]
  exact big_mid.2 h

theorem wptr_set {xs : List Wk} {i : Nat} {x y : Wk} (hx : xs[i]? = some x) (hy : y.wb = x.wb) : (xs.set i y).map wptr = xs.map wptr := by
  rw [List.map_set]
  apply List.ext_getElem?
  intro j
  rw [List.getElem?_set]
  split
  · rename_i h; subst h
    have hi : i < xs.length := (List.getElem?_eq_some_iff.1 hx).1
    simp [hi, wptr, hy]
    rw [(List.getElem?_eq_some_iff.1 hx).2]
  · rfl
end

theorem key_rows : KeyInt Try.prog 92 22 (.slice none 0 0) := .of (kt := 3) (by kernel_rfl) (by kernel_rfl) (by kernel_rfl)
theorem key_hold : KeyInt Try.prog 93 3 (.int .i64 0) := .of (kt := 3) (by kernel_rfl) (by kernel_rfl) (by kernel_rfl)
theorem elem_worker : ElemOk Try.prog 91 90 1 8 [Value.pointer none] := .of (z := Value.pointer none) (by kernel_rfl) (by kernel_rfl) rfl rfl (by decide) (by simp [Value.oneCell'])

theorem ints_len (xs : List Int) : (ints xs).length = xs.length := by simp [ints]
theorem ints_one (xs : List Int) : ∀ y ∈ ints xs, y.oneCell' = true := by simp [ints, Value.oneCell']

section
variable {w : World} {l : List HP} {pb : Nat} {S : SchedS}

set_option maxHeartbeats 400000 in
theorem has_ok (h : SatL w (SchedR pb S :: l)) (id : Int) (ha : S.all.length < 1000000) :
    Calls Try.prog 33 #[.pointer (some ⟨pb, 0, none⟩), .int .i64 id] w (Ret (BoolPost (SchedR pb S :: l) (S.has id))) := by
  obtain ⟨av, qv, sm, hm, wm, tv, h1⟩ := Sched_open.1 h
  obtain ⟨a, c, rfl, hc1, hc2⟩ := Sl.valn (h1.pull 1 : SatL w (Sl _ _ _ :: _)) (List.length_map _)
  have c0 := h1.cell (i := 0) rfl
  have ha' : (S.all.length : Int) < 1000000 := by omega
  have Hh := hid h
  by_cases h2 : 0 ≤ id
  · by_cases h3 : id < S.all.length
    · have Hd := hid (show S.has id = true by simp [SchedS.has, h2, h3])
      go_enter Try.func33, Try.ntmps33
      go_wp2
      go_ret
      exact Ret.mk ⟨by rw [Hd.out]; rfl, Hh.out⟩
    · have Hd := hid (show S.has id = false by simp [SchedS.has, h3])
      go_enter Try.func33, Try.ntmps33
      go_wp2
      go_ret
      exact Ret.mk ⟨by rw [Hd.out]; rfl, Hh.out⟩
  · have Hd := hid (show S.has id = false by simp [SchedS.has, h2])
    go_enter Try.func33, Try.ntmps33
    go_wp2
    go_ret
    exact Ret.mk ⟨by rw [Hd.out]; rfl, Hh.out⟩

theorem notid_asks {bx : Nat} {id : Int} {vs : List Value} (hvs : ∀ v ∈ vs, ∃ z : Int, v = .int .i64 z) {P0 : HP} :
    Asks Try.prog 58 #[.pointer (some ⟨bx, 0, none⟩)] (fun v => match v with | .int _ z => z == id | _ => false) vs (P0 :: cl bx 3 #[.int .i64 id] :: l) := by
  intro v hv w h
  obtain ⟨z, rfl⟩ := hvs v hv
  have c0 := (h.pull 1 : SatL w (cl bx _ _ :: _)).cell (i := 0) rfl
  go_enter Try.func58, Try.ntmps58
  go_wp2
  go_ret
  exact Ret.mk ⟨by simp [BEq.beq, beq_iff_eq], h⟩

theorem without_ok {v : Value} {xs : List Int} (h : SatL w (Sl 3 v (ints xs) :: l)) (id : Int) :
    Calls Try.prog 38 #[v, .int .i64 id] w (Ret (SlPost 3 (ints (xs.filter fun x => !(x == id))) l)) := by
  obtain ⟨a, n, c, rfl⟩ := Sl.val h
  have h0 := (h.alloc (.cells #[.int .i64 id] 3)).swap
  have hd := deleteFunc_int 58 #[.pointer (some ⟨w.heap.size, 0, none⟩)] (fun v => match v with | .int _ z => z == id | _ => false) _ (ints xs) _ _ h0 (fun args w => by kernel_rfl)
    (by intro x hx; obtain ⟨z, _, rfl⟩ := List.mem_map.1 hx; exact ⟨_, rfl⟩) (fun ys _ => notid_asks (by intro x hx; obtain ⟨z, _, rfl⟩ := List.mem_map.1 hx; exact ⟨_, rfl⟩))
  have Hf := hid (show (ints xs).filter (fun x => !(match x with | .int _ z => z == id | _ => false)) = ints (xs.filter fun x => !(x == id)) by unfold ints; rw [List.filter_map]; rfl)
  rw [Hf.out] at hd
  go_enter Try.func38, Try.ntmps38
  go_wp2_with (refine hd.mono ?_; rintro e w' ⟨v, rfl, hs'⟩)
  go_ret
  exact Ret.mk (SatL.tail (SatL.swap hs'))

theorem has_iff {id : Int} : S.has id = true ↔ ∃ x, 0 ≤ id ∧ S.all[id.toNat]? = some x := by
  simp only [SchedS.has, decide_eq_true_eq]
  constructor
  · rintro ⟨h1, h2⟩
    have : id.toNat < S.all.length := by omega
    exact ⟨_, h1, List.getElem?_eq_getElem this⟩
  · rintro ⟨x, h1, h2⟩
    have := (List.getElem?_eq_some_iff.1 h2).1
    omega
theorem has_none {id : Int} (h : S.has id = false) : S.may id = 2 := by
  simp only [SchedS.has, decide_eq_false_iff_not] at h
  unfold SchedS.may
  split
  · rfl
  · rw [List.getElem?_eq_none (by omega)]

/-- the cells that lead to a worker -/
theorem at_worker {qv tv : Value} {sm hm wm i : Nat} {x : Wk} {a : Option Addr} {n c : Nat} (h1 : SatL w (SchedO pb (.slice a n c) qv sm hm wm tv S l)) (hx : S.all[i]? = some x) :
    n = S.all.length ∧ i < n ∧ n ≤ c ∧ c ≤ 9223372036854775807 ∧ ∃ b off, a = some ⟨b, off, none⟩ ∧ w.cell? ⟨b, off + i, none⟩ = some (wptr x) ∧
      w.cell? ⟨x.wb, 0, none⟩ = some x.task ∧ w.cell? ⟨x.wb, 1, none⟩ = some (.int .i64 x.state) ∧ w.cell? ⟨x.wb, 2, none⟩ = some (.int .i64 x.left) ∧ (∀ k, w.frozen? ⟨x.wb, k, none⟩ = false) := by
  have hi : i < S.all.length := (List.getElem?_eq_some_iff.1 hx).1
  have hr := (h1.pull 1 : SatL w (Sl _ _ _ :: _))
  obtain ⟨e1, e2, e3⟩ := Sl.lenEq hr
  rw [List.length_map] at e1
  subst e1
  obtain ⟨b, off, rfl⟩ := Sl.addr hr (by omega)
  have hw := (big_get hx).1 (h1.pull 7 : SatL w (big WkR S.all :: _))
  unfold maxLen at e3
  exact ⟨rfl, hi, e2, e3, b, off, rfl, Sl.cell hr (by simp [hx]), hw.cell (i := 0) rfl, hw.cell (i := 1) rfl, hw.cell (i := 2) rfl, fun k => hw.free k⟩

theorem at_all (h : SatL w (SchedR pb S :: l)) {i : Nat} {x : Wk} (hx : S.all[i]? = some x) : ∃ (qv : Value) (sm hm wm : Nat) (tv : Value) (n c b off : Nat), SatL w (SchedO pb (.slice (some ⟨b, off, none⟩) n c) qv sm hm wm tv S l) ∧
    w.cell? ⟨pb, 0, none⟩ = some (.slice (some ⟨b, off, none⟩) n c) ∧ w.cell? ⟨pb, 1, none⟩ = some qv ∧ (∀ k, w.frozen? ⟨pb, k, none⟩ = false) ∧
    n = S.all.length ∧ i < n ∧ n ≤ c ∧ c ≤ 9223372036854775807 ∧ w.cell? ⟨b, off + i, none⟩ = some (.pointer (some ⟨x.wb, 0, none⟩)) ∧
      w.cell? ⟨x.wb, 0, none⟩ = some x.task ∧ w.cell? ⟨x.wb, 1, none⟩ = some (.int .i64 x.state) ∧ w.cell? ⟨x.wb, 2, none⟩ = some (.int .i64 x.left) ∧ (∀ k, w.frozen? ⟨x.wb, k, none⟩ = false) := by
  obtain ⟨av, qv, sm, hm, wm, tv, h1⟩ := Sched_open.1 h
  obtain ⟨a, n, c, rfl⟩ := Sl.val (h1.pull 1 : SatL w (Sl _ _ _ :: _))
  obtain ⟨g1, g2, g3, g4, b, off, rfl, g5, g6, g7, g8, g9⟩ := at_worker h1 hx
  exact ⟨qv, sm, hm, wm, tv, n, c, b, off, h1, h1.cell (i := 0) rfl, h1.cell (i := 1) rfl, fun k => h1.free k, g1, g2, g3, g4, g5, g6, g7, g8, g9⟩

set_option maxHeartbeats 400000 in
theorem state_ok (h : SatL w (SchedR pb S :: l)) (id : Int) (ha : S.all.length < 1000000) :
    Calls Try.prog 12 #[.pointer (some ⟨pb, 0, none⟩), .int .i64 id] w (Ret fun v w' => SatL w' (SchedR pb S :: l) ∧ v = match (if id < 0 then none else S.all[id.toNat]?) with | none => .tuple #[.int .i64 0, .int .i64 2] | some x => .tuple #[.int .i64 x.state, .int .i64 0]) := by
  have hh := has_ok h id ha
  by_cases hs : S.has id = true
  · obtain ⟨x, h0, hx⟩ := has_iff.1 hs
    rw [hs] at hh
    obtain ⟨i, rfl⟩ : ∃ i : Nat, id = i := ⟨id.toNat, by omega⟩
    rw [if_neg (by omega)]
    simp only [Int.toNat_natCast] at hx ⊢
    rw [hx]
    clear hs h0
    go_enter Try.func12, Try.ntmps12
    go_wp2_with (refine hh.mono ?_; rintro e w' ⟨v, rfl, rfl, hs'⟩; obtain ⟨qv, sm, hm, wm, tv, n, c, b, off, h1, c0, c1, f1, g1, g2, g3, g4, g5, g6, g7, g8, g9⟩ := at_all hs' hx)
    go_ret2
    exact Ret.mk ⟨hs', rfl⟩
  · have hs' : S.has id = false := by simpa using hs
    rw [hs'] at hh
    have : (if id < 0 then none else S.all[id.toNat]?) = none := by
      split
      · rfl
      · simp only [SchedS.has, decide_eq_true_eq] at hs
        exact List.getElem?_eq_none (by omega)
    rw [this]
    clear this hs hs'
    go_enter Try.func12, Try.ntmps12
    go_wp2_with (refine hh.mono ?_; rintro e w' ⟨v, rfl, rfl, hs'⟩)
    go_ret2
    exact Ret.mk ⟨hs', rfl⟩

set_option maxHeartbeats 400000 in
theorem may_ok (h : SatL w (SchedR pb S :: l)) (id : Int) (ha : S.all.length < 1000000) :
    Calls Try.prog 34 #[.pointer (some ⟨pb, 0, none⟩), .int .i64 id] w (Ret (IntPost (SchedR pb S :: l) (S.may id))) := by
  have hh := has_ok h id ha
  by_cases hs : S.has id = true
  · obtain ⟨x, h0, hx⟩ := has_iff.1 hs
    rw [hs] at hh
    obtain ⟨i, rfl⟩ : ∃ i : Nat, id = i := ⟨id.toNat, by omega⟩
    simp only [Int.toNat_natCast] at hx
    have Hm := hid (show S.may (i : Int) = if x.state = 5 then 2 else if x.state = 2 ∨ x.state = 3 ∨ x.state = 4 then 8 else 0 by unfold SchedS.may; rw [if_neg (by omega)]; simp only [Int.toNat_natCast, hx])
    clear hs h0
    by_cases k5 : x.state = 5
    · go_enter Try.func34, Try.ntmps34
      go_wp2_with (refine hh.mono ?_; rintro e w' ⟨v, rfl, rfl, hs'⟩; obtain ⟨qv, sm, hm, wm, tv, n, c, b, off, h1, c0, c1, f1, g1, g2, g3, g4, g5, g6, g7, g8, g9⟩ := at_all hs' hx)
      go_ret
      exact Ret.mk ⟨by rw [Hm.out]; simp [k5], hs'⟩
    · by_cases k2 : x.state = 2
      · go_enter Try.func34, Try.ntmps34
        go_wp2_with (refine hh.mono ?_; rintro e w' ⟨v, rfl, rfl, hs'⟩; obtain ⟨qv, sm, hm, wm, tv, n, c, b, off, h1, c0, c1, f1, g1, g2, g3, g4, g5, g6, g7, g8, g9⟩ := at_all hs' hx)
        go_ret
        exact Ret.mk ⟨by rw [Hm.out]; simp [k2], hs'⟩
      · by_cases k3 : x.state = 3
        · go_enter Try.func34, Try.ntmps34
          go_wp2_with (refine hh.mono ?_; rintro e w' ⟨v, rfl, rfl, hs'⟩; obtain ⟨qv, sm, hm, wm, tv, n, c, b, off, h1, c0, c1, f1, g1, g2, g3, g4, g5, g6, g7, g8, g9⟩ := at_all hs' hx)
          go_ret
          exact Ret.mk ⟨by rw [Hm.out]; simp [k3], hs'⟩
        · by_cases k4 : x.state = 4
          all_goals
            go_enter Try.func34, Try.ntmps34
            go_wp2_with (refine hh.mono ?_; rintro e w' ⟨v, rfl, rfl, hs'⟩; obtain ⟨qv, sm, hm, wm, tv, n, c, b, off, h1, c0, c1, f1, g1, g2, g3, g4, g5, g6, g7, g8, g9⟩ := at_all hs' hx)
            go_ret
            exact Ret.mk ⟨by rw [Hm.out]; simp [k5, k2, k3, k4], hs'⟩
  · have hs' : S.has id = false := by simpa using hs
    rw [hs'] at hh
    have Hm := hid (has_none hs')
    clear hs hs'
    go_enter Try.func34, Try.ntmps34
    go_wp2_with (refine hh.mono ?_; rintro e w' ⟨v, rfl, rfl, hs'⟩)
    go_ret
    exact Ret.mk ⟨by rw [Hm.out]; rfl, hs'⟩
end
end Go.Proofs.Ytcehhkhcofokkaa
