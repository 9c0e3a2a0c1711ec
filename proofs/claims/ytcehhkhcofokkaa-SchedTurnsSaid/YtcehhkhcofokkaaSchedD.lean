/- Wake, Ready, Spawn, New of the scheduler. -/
import Derived.Test.YtcehhkhcofokkaaSchedC
namespace Go.Proofs.Ytcehhkhcofokkaa
open Go.RowKit
set_option linter.unusedVariables false

def SchedS.rdys (S : SchedS) (ids : List Int) : SchedS := ids.foldl (fun S id => S.rdy id.toNat) S
def SchedS.wake (S : SchedS) (ch : Int) : Int × SchedS := ((S.sl ch).length, SchedS.rdys { S with sl := upf S.sl ch [] } (S.sl ch))

theorem rdy_len (S : SchedS) (i : Nat) : (S.rdy i).all.length = S.all.length := by simp [SchedS.rdy, SchedS.setSt]
theorem rdys_len (ids : List Int) : ∀ S : SchedS, (S.rdys ids).all.length = S.all.length ∧ (S.rdys ids).queue.length = S.queue.length + ids.length := by
  induction ids with
  | nil => intro S; exact ⟨rfl, rfl⟩
  | cons x ids ih =>
    intro S
    have := ih (S.rdy x.toNat)
    simp only [SchedS.rdys, List.foldl_cons] at *
    refine ⟨this.1.trans (rdy_len _ _), this.2.trans ?_⟩
    simp [SchedS.rdy]; omega
theorem rdys_take (S : SchedS) (ids : List Int) (k : Nat) (x : Int) (h : ids[k]? = some x) : S.rdys (ids.take (k + 1)) = (S.rdys (ids.take k)).rdy x.toNat := by
  rw [List.take_add_one, h]; simp [SchedS.rdys]

section
variable {w : World} {l : List HP} {pb : Nat} {S : SchedS}

set_option maxHeartbeats 800000 in
theorem wake_ok (h : SatL w (SchedR pb S :: l)) (ch : Int) (ha : S.all.length < 1000000) (hl : (S.sl ch).length + S.queue.length < 1000000) (hin : ∀ id ∈ S.sl ch, 0 ≤ id ∧ id < S.all.length) :
    Calls Try.prog 14 #[.pointer (some ⟨pb, 0, none⟩), .int .i64 ch] w (Ret (SPost pb l (S.wake ch))) := by
  obtain ⟨av, qv, sm, hb, wm, tv, h1⟩ := Sched_open.1 h
  obtain ⟨rv, es, L, hv, h2, _, back, _⟩ := rows_open (h1.pull 3 : SatL w (MapRows sm S.sl :: _)) ch
  have c2 := (h2.pull 3 : SatL w (SchedC _ _ _ _ _ _ _ :: _)).cell (i := 2) rfl
  have hr := run_lookup_sl key_rows (h2.pull 1 : SatL w (MapI sm es :: _)) ch
  rw [hv] at hr
  have Hq := hid (show S.wake ch = (((S.sl ch).length : Int), SchedS.rdys { S with sl := upf S.sl ch [] } (S.sl ch)) from rfl)
  have hm2 : SatL w (MapI sm es :: Sl 3 rv (ints (S.sl ch)) :: L :: _) := h2.swap
  obtain ⟨a, c, rfl, hc1, hc2⟩ := Sl.valn h2 (ints_len _)
  clear h h1 hv h2
  generalize hS0 : ({ S with sl := upf S.sl ch [] } : SchedS) = S0 at *
  have hl0 : S0.all.length = S.all.length := by rw [← hS0]
  have hq0 : S0.queue.length = S.queue.length := by rw [← hS0]
  have HS0 := hid hS0; clear hS0
  generalize hxs : S.sl ch = xs at *
  have Hxs := hid hxs; clear hxs
  go_enter Try.func14, Try.ntmps14
  go_wp2_with (refine wpList_delete_sl rfl (.tmp 17) (.tmp 18) rfl key_rows rfl hm2 rfl ?_; intro w2 h3)
  have h4 := back w2 _ (h3.bring [0, 2])
  have h5 : SatL w2 (Sl 3 (.slice a xs.length c) (ints xs) :: SchedR pb S0 :: l) := by
    have : SatL w2 (SchedR pb S0 :: Sl 3 (.slice a xs.length c) (ints xs) :: l) := by
      rw [← HS0.out]
      exact Sched_open.2 ⟨av, qv, sm, hb, wm, tv, h4.bring [2, 3, 4, 0, 5, 6, 7, 8, 1]⟩
    exact this.swap
  clear h3 h4 back hr c2 hm2
  have hlen : xs.length < 1000000 := by omega
  go_loopw [21] (fun i wr => ∃ k : Nat, k ≤ xs.length ∧ i = .int .i64 k ∧ SatL wr (Sl 3 (.slice a xs.length c) (ints xs) :: SchedR pb (S0.rdys (xs.take k)) :: l)) (fun i _ => xs.length - (intOf i).toNat)
  case atStart => exact ⟨0, Nat.zero_le _, rfl, h5⟩
  case round =>
    obtain ⟨k, hk, rfl, hs⟩ := hrel
    by_cases hlt : k < xs.length
    · have hx : xs[k]? = some xs[k] := List.getElem?_eq_getElem hlt
      obtain ⟨b, off, rfl⟩ := Sl.addr hs (by omega)
      have hc := Sl.cell hs (i := k) (x := .int .i64 xs[k]) (by simp [ints, hx])
      have hi := hin _ (List.getElem_mem hlt)
      have Htk := hid (rdys_take S0 xs k _ hx)
      generalize xs[k] = x at *
      obtain ⟨j, rfl⟩ : ∃ j : Nat, x = j := ⟨x.toNat, by omega⟩
      have hl2 := rdys_len (xs.take k) S0
      have hj : j < (S0.rdys (xs.take k)).all.length := by omega
      have htl : (xs.take k).length ≤ k := by simp; omega
      have hrd := ready_ok hs.swap (List.getElem?_eq_getElem hj) (by omega) (by omega)
      clear hx hi hl2 hj htl
      go_wp2_with ((with_reducible refine hrd.mono ?_); rintro e w3 ⟨v, rfl, rfl, hs3⟩)
      go_roundw
      case rel => exact ⟨k + 1, by omega, by go_num, by rw [Htk.out]; exact hs3.swap⟩
      case measure => simp [intOf]; omega
    · obtain rfl : k = xs.length := by omega
      go_wp2
      go_ret
      rw [List.take_length] at hs
      exact Ret.mk (by rw [Hq.out]; exact ⟨rfl, SatL.tail hs⟩)
end
end Go.Proofs.Ytcehhkhcofokkaa
