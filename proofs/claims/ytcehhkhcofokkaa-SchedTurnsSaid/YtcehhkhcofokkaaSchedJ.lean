/- Unlock of the scheduler, where several wait; all its ways. -/
import Derived.Test.YtcehhkhcofokkaaSchedI
namespace Go.Proofs.Ytcehhkhcofokkaa
open Go.RowKit
set_option linter.unusedVariables false
section
variable {w : World} {l : List HP} {pb : Nat} {S : SchedS}

set_option maxRecDepth 100000 in
set_option maxHeartbeats 1600000 in
theorem unlock_many (h : SatL w (SchedR pb S :: l)) (id k : Int) (i : Nat) (y : Wk) (z : Int) (zs : List Int) (ha : S.all.length < 1000000) (hq : S.queue.length < 1000000) (hs : S.has id = true) (hk : S.hold k = some id) (hw : S.wait k = (i : Int) :: z :: zs) (hx : S.all[i]? = some y) :
    Calls Try.prog 32 #[.pointer (some ⟨pb, 0, none⟩), .int .i64 id, .int .i64 k] w (Ret (SPost pb l (S.unlock id k))) := by
  have hh := has_ok h id ha
  have Hq := hid (show S.unlock id k = (0, SchedS.rdy { S with hold := upf S.hold k (some (i : Int)), wait := upf S.wait k (z :: zs) } i) by simp [SchedS.unlock, hs, hk, hw])
  rw [hs] at hh
  have hlk := fun (w1 : World) (h1 : SatL w1 (SchedR pb S :: l)) => unlock_view h1 hk hw
  have hrdy := fun (w1 : World) (h1 : SatL w1 (SchedR pb { S with hold := upf S.hold k (some (i : Int)), wait := upf S.wait k (z :: zs) } :: l)) => ready_ok h1 (i := i) hx ha hq
  simp only [List.length_cons] at hlk
  have hk63 : (i : Int) ≤ 1000000 := by have := (List.getElem?_eq_some_iff.1 hx).1; omega
  clear hs hk hw h hx
  have t1 : True := trivial
  go_enter Try.func32, Try.ntmps32
  go_wp2_with (first
    | (have _t := t1; (with_reducible refine hh.mono ?_); clear t1; rintro e w1 ⟨v, rfl, rfl, hs1⟩; obtain ⟨av, qv, sm, hb, wm, tv, es, es2, L, b, off, c, h4, he, back, bdel, hl1, hl2, g1, g2⟩ := hlk _ hs1; have c3 := (h4.pull 4 : SatL w1 (SchedC _ _ _ _ _ _ _ :: _)).cell (i := 3) rfl; have c4 := (h4.pull 4 : SatL w1 (SchedC _ _ _ _ _ _ _ :: _)).cell (i := 4) rfl)
    | fail "no")
  have ce : w1.cell? ⟨b, off, none⟩ = some (.int .i64 i) := Sl.cell (h4.pull 2 : SatL w1 (Sl _ _ _ :: _)) (i := 0) (x := .int .i64 i) rfl
  have h5 := sat_drew.2 h4
  obtain ⟨v0, st, A, r1, hA⟩ := run_mapEntry_sl key_hold h5 k
  obtain ⟨B, r2, hB⟩ := run_entryStore_sl hA (.int .i64 i)
  obtain ⟨v1, st1, C, r3, hC⟩ := run_mapEntry_sl key_rows (hB.pull 1) k
  obtain ⟨D, hD⟩ := run_entryStore_all hC
  have r4 := fun val => (hD val).1
  have hD := fun val => (hD val).2
  have ceA : A.cell? ⟨b, off, none⟩ = some (.int .i64 i) := Sl.cell (hA.pull 2 : SatL A (Sl _ _ _ :: _)) (i := 0) (x := .int .i64 i) rfl
  have c4D : ∀ val, (D val).cell? ⟨pb, 4, none⟩ = some (.map (some wm)) := fun val => ((hD val).pull 4 : SatL _ (SchedC _ _ _ _ _ _ _ :: _)).cell (i := 4) rfl
  have ceD : ∀ val, (D val).cell? ⟨b, off, none⟩ = some (.int .i64 i) := fun val => Sl.cell ((hD val).pull 2 : SatL _ (Sl _ _ _ :: _)) (i := 0) (x := .int .i64 i) rfl
  have hfin : SatL (D (.slice (some ⟨b, off + 1, none⟩) (zs.length + 1) (c - 1))) (SchedR pb { S with hold := upf S.hold k (some (i : Int)), wait := upf S.wait k (z :: zs) } :: l) := by
    have h10 := ((hD (.slice (some ⟨b, off + 1, none⟩) (zs.length + 1) (c - 1))).pull 2 : SatL _ (Sl _ _ _ :: _))
    have h10 := Sl.slice h10 (i := 1) (j := zs.length + 1 + 1) (by omega) (by omega)
    have e1 : ((ints ((i : Int) :: z :: zs)).take (zs.length + 1 + 1)).drop 1 = ints (z :: zs) := by simp [ints]; exact List.take_of_length_le (by simp)
    rw [e1] at h10
    have h11 := back _ _ _ _ (h10.bring [0, 1, 3])
    have h12 := hold_put he (h11.pull 1 : SatL _ (MapI hb _ :: _))
    exact Sched_open.2 ⟨av, qv, sm, hb, wm, tv, h12.to⟩
  clear hlk hs1 hl1 hl2 hh h4 h5 hA hB hC back bdel he hD
  have hcc : 1 < c := by omega
  have hF := hid hfin
  clear hfin
  go_region
  all_goals
    go_wp2_with (go_at_call 36; (with_reducible refine (hrdy _ hF.out).mono ?_); rintro e w8 ⟨v, rfl, rfl, hs8⟩)
    go_ret
    exact Ret.mk (by rw [Hq.out]; exact ⟨rfl, hs8⟩)

/-- Unlock: whoever waits is a worker -/
theorem unlock_ok (h : SatL w (SchedR pb S :: l)) (id k : Int) (ha : S.all.length < 1000000) (hq : S.queue.length < 1000000) (hin : ∀ x ∈ S.wait k, 0 ≤ x ∧ x < S.all.length) :
    Calls Try.prog 32 #[.pointer (some ⟨pb, 0, none⟩), .int .i64 id, .int .i64 k] w (Ret (SPost pb l (S.unlock id k))) := by
  by_cases hc : S.has id = false ∨ S.hold k ≠ some id
  · exact unlock_none h id k ha hc
  · have hs : S.has id = true := by cases hb : S.has id with | true => rfl | false => exact absurd (.inl hb) hc
    have hk : S.hold k = some id := by by_cases hb : S.hold k = some id; exact hb; exact absurd (.inr hb) hc
    cases hw : S.wait k with
    | nil => exact unlock_free h id k ha hs hk hw
    | cons x xs =>
      have hx0 := hin x (by rw [hw]; simp)
      obtain ⟨i, rfl⟩ : ∃ i : Nat, x = i := ⟨x.toNat, by omega⟩
      have hx : S.all[i]? = some (S.all[i]'(by omega)) := List.getElem?_eq_getElem _
      cases xs with
      | nil => exact unlock_one h id k i _ ha hq hs hk hw hx
      | cons z zs => exact unlock_many h id k i _ z zs ha hq hs hk hw hx
end
end Go.Proofs.Ytcehhkhcofokkaa
