/- The chapter's example holds; within; so many that do nothing. -/
import Derived.Test.YtcehhkhcofokkaaSchedJ
namespace Go.Proofs.Ytcehhkhcofokkaa
open Go.RowKit
set_option linter.unusedVariables false

def K0 : SchedS := SchedS.new
def K1 (a : Nat) (T : Value) : SchedS := ⟨[⟨a, T, 1, 0⟩], [0], fun _ => [], fun _ => none, fun _ => [], []⟩
def K2 (a b : Nat) (T U : Value) : SchedS := ⟨[⟨a, T, 1, 0⟩, ⟨b, U, 1, 0⟩], [0, 1], fun _ => [], fun _ => none, fun _ => [], []⟩
def K3 (a b c : Nat) (T U V : Value) : SchedS := ⟨[⟨a, T, 1, 0⟩, ⟨b, U, 1, 0⟩, ⟨c, V, 1, 0⟩], [0, 1, 2], fun _ => [], fun _ => none, fun _ => [], []⟩
def K4 (a b c : Nat) (T U V : Value) : SchedS := ⟨[⟨a, T, 1, 0⟩, ⟨b, U, 1, 0⟩, ⟨c, V, 1, 0⟩], [0, 1, 2], fun _ => [], upf (fun _ => none) 7 (some 0), fun _ => [], []⟩
def K5 (a b c : Nat) (T U V : Value) : SchedS := ⟨[⟨a, T, 1, 0⟩, ⟨b, U, 3, 0⟩, ⟨c, V, 1, 0⟩], [0, 2], fun _ => [], upf (fun _ => none) 7 (some 0), upf (fun _ => []) 7 [1], []⟩
def K6 (a b c : Nat) (T U V : Value) : SchedS := ⟨[⟨a, T, 1, 0⟩, ⟨b, U, 3, 0⟩, ⟨c, V, 3, 0⟩], [0], fun _ => [], upf (fun _ => none) 7 (some 0), upf (upf (fun _ => []) 7 [1]) 7 [1, 2], []⟩
def K7 (a b c : Nat) (T U V : Value) : SchedS := ⟨[⟨a, T, 1, 0⟩, ⟨b, U, 1, 0⟩, ⟨c, V, 3, 0⟩], [0, 1], fun _ => [], upf (upf (fun _ => none) 7 (some 0)) 7 (some 1), upf (upf (upf (fun _ => []) 7 [1]) 7 [1, 2]) 7 [2], []⟩

section
variable {w : World} {l : List HP} {pb a b c : Nat} {T U V : Value}

theorem spawn_0 (h : SatL w (SchedR pb K0 :: l)) (ty : Nat) (tv : Value) : Calls Try.prog 21 #[.pointer (some ⟨pb, 0, none⟩), .iface ty tv] w (Ret fun v w' => v = .int .i64 0 ∧ ∃ a, SatL w' (SchedR pb (K1 a (.iface ty tv)) :: l)) :=
  spawn_ok h ty tv (by decide) (by decide)
theorem spawn_1 (h : SatL w (SchedR pb (K1 a T) :: l)) (ty : Nat) (tv : Value) : Calls Try.prog 21 #[.pointer (some ⟨pb, 0, none⟩), .iface ty tv] w (Ret fun v w' => v = .int .i64 1 ∧ ∃ b, SatL w' (SchedR pb (K2 a b T (.iface ty tv)) :: l)) :=
  spawn_ok h ty tv (by simp [K1]) (by simp [K1])
theorem spawn_2 (h : SatL w (SchedR pb (K2 a b T U) :: l)) (ty : Nat) (tv : Value) : Calls Try.prog 21 #[.pointer (some ⟨pb, 0, none⟩), .iface ty tv] w (Ret fun v w' => v = .int .i64 2 ∧ ∃ c, SatL w' (SchedR pb (K3 a b c T U (.iface ty tv)) :: l)) :=
  spawn_ok h ty tv (by simp [K2]) (by simp [K2])
theorem lock_0 (h : SatL w (SchedR pb (K3 a b c T U V) :: l)) : Calls Try.prog 16 #[.pointer (some ⟨pb, 0, none⟩), .int .i64 0, .int .i64 7] w (Ret fun v w' => v = .tuple #[.bool true, .int .i64 0] ∧ SatL w' (SchedR pb (K4 a b c T U V) :: l)) :=
  lock_ok h 0 7 (by simp [K3]) (by simp [K3])
theorem lock_1 (h : SatL w (SchedR pb (K4 a b c T U V) :: l)) : Calls Try.prog 16 #[.pointer (some ⟨pb, 0, none⟩), .int .i64 1, .int .i64 7] w (Ret fun v w' => v = .tuple #[.bool false, .int .i64 0] ∧ SatL w' (SchedR pb (K5 a b c T U V) :: l)) :=
  lock_ok h 1 7 (by simp [K4]) (by simp [K4])
theorem lock_2 (h : SatL w (SchedR pb (K5 a b c T U V) :: l)) : Calls Try.prog 16 #[.pointer (some ⟨pb, 0, none⟩), .int .i64 2, .int .i64 7] w (Ret fun v w' => v = .tuple #[.bool false, .int .i64 0] ∧ SatL w' (SchedR pb (K6 a b c T U V) :: l)) :=
  lock_ok h 2 7 (by simp [K5]) (by simp [K5, upf])
theorem unlock_0 (h : SatL w (SchedR pb (K6 a b c T U V) :: l)) : Calls Try.prog 32 #[.pointer (some ⟨pb, 0, none⟩), .int .i64 0, .int .i64 7] w (Ret fun v w' => v = .int .i64 0 ∧ SatL w' (SchedR pb (K7 a b c T U V) :: l)) :=
  unlock_ok h 0 7 (by simp [K6]) (by simp [K6]) (by simp [K6, upf])
theorem holder_7 (h : SatL w (SchedR pb (K7 a b c T U V) :: l)) : Calls Try.prog 18 #[.pointer (some ⟨pb, 0, none⟩), .int .i64 7] w (Ret fun v w' => SatL w' (SchedR pb (K7 a b c T U V) :: l) ∧ v = .tuple #[.int .i64 1, .bool true]) :=
  holder_ok h 7
theorem state_2 (h : SatL w (SchedR pb (K7 a b c T U V) :: l)) : Calls Try.prog 12 #[.pointer (some ⟨pb, 0, none⟩), .int .i64 2] w (Ret fun v w' => SatL w' (SchedR pb (K7 a b c T U V) :: l) ∧ v = .tuple #[.int .i64 3, .int .i64 0]) :=
  state_ok h 2 (by simp [K7])

set_option maxRecDepth 100000 in
set_option maxHeartbeats 1000000 in
theorem known_ok (h : SatL w l) : Calls Try.prog 9 #[] w (Ret (BoolPost l true)) := by
  have t0 : True := trivial
  go_enter Try.func9, Try.ntmps9
  go_wp2_with (first
    | (have _t := t0; go_at_call 20; (with_reducible refine (new_ok h).mono ?_); rintro e w1 ⟨v, rfl, pb, rfl, hs1⟩; have hs1 : SatL w1 (SchedR pb K0 :: l) := hs1; have hs2 := hs1.alloc (.cells #[.slice none 0 0, .int .i64 0, .slice none 0 0] 57); have hs2 := hs2.swap; clear t0; have t1 : True := trivial)
    | (have _t := t1; go_at_call 21; (with_reducible refine (spawn_0 hs2 54 (.pointer (some ⟨w1.heap.size, 0, none⟩))).mono ?_); rintro e w2 ⟨v, rfl, rfl, a, hs3⟩; have hs3 : SatL w2 (SchedR pb (K1 a (.iface 54 (.pointer (some ⟨w1.heap.size, 0, none⟩)))) :: _) := hs3; generalize Value.iface 54 (.pointer (some ⟨w1.heap.size, 0, none⟩)) = T at hs3; clear t1; have t2 : True := trivial)
    | (have _t := t2; go_at_call 21; (with_reducible refine (spawn_1 hs3 54 (.pointer (some ⟨w1.heap.size, 0, none⟩))).mono ?_); rintro e w3 ⟨v, rfl, rfl, b, hs4⟩; have hs4 : SatL w3 (SchedR pb (K2 a b T (.iface 54 (.pointer (some ⟨w1.heap.size, 0, none⟩)))) :: _) := hs4; generalize Value.iface 54 (.pointer (some ⟨w1.heap.size, 0, none⟩)) = T2 at hs4; clear t2; have t3 : True := trivial)
    | (have _t := t3; go_at_call 21; (with_reducible refine (spawn_2 hs4 54 (.pointer (some ⟨w1.heap.size, 0, none⟩))).mono ?_); rintro e w4 ⟨v, rfl, rfl, c, hs5⟩; have hs5 : SatL w4 (SchedR pb (K3 a b c T T2 (.iface 54 (.pointer (some ⟨w1.heap.size, 0, none⟩)))) :: _) := hs5; generalize Value.iface 54 (.pointer (some ⟨w1.heap.size, 0, none⟩)) = T3 at hs5; clear t3; have t4 : True := trivial)
    | (have _t := t4; go_at_call 16; (with_reducible refine (lock_0 hs5).mono ?_); rintro e w5 ⟨v, rfl, rfl, hs6⟩; clear t4; have t5 : True := trivial)
    | (have _t := t5; go_at_call 16; (with_reducible refine (lock_1 hs6).mono ?_); rintro e w6 ⟨v, rfl, rfl, hs7⟩; clear t5; have t6 : True := trivial)
    | (have _t := t6; go_at_call 16; (with_reducible refine (lock_2 hs7).mono ?_); rintro e w7 ⟨v, rfl, rfl, hs8⟩; clear t6; have t7 : True := trivial)
    | (have _t := t7; go_at_call 32; (with_reducible refine (unlock_0 hs8).mono ?_); rintro e w8 ⟨v, rfl, rfl, hs9⟩; clear t7; have t8 : True := trivial)
    | (have _t := t8; go_at_call 18; (with_reducible refine (holder_7 hs9).mono ?_); rintro e w9 ⟨v, rfl, hs10, rfl⟩; clear t8; have t9 : True := trivial)
    | (have _t := t9; go_at_call 12; (with_reducible refine (state_2 hs10).mono ?_); rintro e w10 ⟨v, rfl, hs11, rfl⟩; clear t9; have t10 : True := trivial))
  go_ret
  exact Ret.mk ⟨rfl, hs11.to⟩

/-- within: a number from 0 to n - 1 -/
def withinI (a n : Int) : Int := if a.tmod n < 0 then a.tmod n + n else a.tmod n
theorem within_bd (a n : Int) (hn : 0 < n) : 0 ≤ withinI a n ∧ withinI a n < n := by
  unfold withinI
  have h1 := Int.tmod_lt_of_pos a hn
  have h2 : -n < a.tmod n := by
    have := Int.lt_tmod_of_pos a hn
    omega
  split <;> omega

theorem within_ok (a n : Int) (hn : 0 < n ∧ n ≤ 1000000) (h : SatL w l) : Calls Try.prog 10 #[.int .i64 a, .int .i64 n] w (Ret (IntPost l (withinI a n))) := by
  have h1 := Int.tmod_lt_of_pos a hn.1
  have h2 : -n < a.tmod n := by
    have := Int.lt_tmod_of_pos a hn.1
    omega
  have hz : (n == 0) = false := by simp; omega
  by_cases hneg : a.tmod n < 0
  · have Hq := hid (show withinI a n = a.tmod n + n by simp [withinI, hneg])
    go_enter Try.func10, Try.ntmps10
    go_wp2
    go_ret
    exact Ret.mk ⟨by rw [Hq.out]; rfl, h⟩
  · have Hq := hid (show withinI a n = a.tmod n by simp [withinI, hneg])
    go_enter Try.func10, Try.ntmps10
    go_wp2
    go_ret
    exact Ret.mk ⟨by rw [Hq.out]; rfl, h⟩

def spawned (n : Nat) (S : SchedS) : Prop := S.all.length = n ∧ (∀ x ∈ S.all, x.state = 1) ∧ S.queue = (List.range n).map (fun i : Nat => (i : Int)) ∧ S.sl = (fun _ => []) ∧ S.hold = (fun _ => none) ∧ S.wait = (fun _ => []) ∧ S.timers = []
set_option maxHeartbeats 1000000 in
theorem some_ok (n : Nat) (hn : n < 100000) (h : SatL w l) : Calls Try.prog 11 #[.int .i64 n] w (Ret fun v w' => ∃ pb S, v = .pointer (some ⟨pb, 0, none⟩) ∧ spawned n S ∧ SatL w' (SchedR pb S :: l)) := by
  have hnew := new_ok h
  go_enter Try.func11, Try.ntmps11
  go_wp2_with (go_at_call 20; (with_reducible refine hnew.mono ?_); rintro e w1 ⟨v, rfl, pb, rfl, hs1⟩)
  clear hnew
  go_loopw [4] (fun i wr => ∃ (k : Nat) (S : SchedS), k ≤ n ∧ i = .int .i64 k ∧ spawned k S ∧ SatL wr (SchedR pb S :: l)) (fun i _ => n - (intOf i).toNat)
  case atStart => exact ⟨0, SchedS.new, by omega, rfl, ⟨rfl, by simp [SchedS.new], rfl, rfl, rfl, rfl, rfl⟩, hs1⟩
  case round =>
    obtain ⟨k, S, hk, rfl, hS, hs2⟩ := hrel
    by_cases hlt : k < n
    · have hal := hS.1
      have hql : S.queue.length = k := by rw [hS.2.2.1]; simp
      have hs3 := (hs2.alloc (.cells #[] 84)).swap
      have hsp := spawn_ok hs3 82 (.pointer (some ⟨wr.heap.size, 0, none⟩)) (by omega) (by omega)
      have HS := hid hS
      clear hS hal hql
      go_wp2_with (go_at_call 21; (with_reducible refine hsp.mono ?_); rintro e w2 ⟨v, rfl, rfl, wb, hs4⟩)
      go_roundw
      case rel =>
        obtain ⟨q1, q2, q3, q4, q5, q6, q7⟩ := HS.out
        have hs5 := SatL.tail (SatL.swap hs4)
        refine ⟨k + 1, _, by omega, by go_num, ?sp, hs5⟩
        refine ⟨by simp [q1], ?_, by simp [q1, q3, List.range_succ], q4, q5, q6, q7⟩
        intro x hx
        rcases List.mem_append.1 hx with hx | hx
        · exact q2 x hx
        · simp at hx; subst hx; rfl
      case measure => simp [intOf]; omega
    · obtain rfl : k = n := by omega
      go_wp2
      go_ret
      exact Ret.mk ⟨pb, S, rfl, hS, hs2⟩
end
end Go.Proofs.Ytcehhkhcofokkaa
