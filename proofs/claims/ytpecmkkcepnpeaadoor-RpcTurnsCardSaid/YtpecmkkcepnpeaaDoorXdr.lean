/- xdr's Reader: fail, number, U32, Left, At, Err, NewReader. No condition beside the sizes. -/
import Derived.Test.YtpecmkkcepnpeaaDoorNumG
import Derived.Test.YtpecmkkcepnpeaaDoorNumH
import Derived.Test.YtpecmkkcepnpeaaDoorClone
import Derived.Test.YtpecmkkcepnpeaaDoorRegE
import Derived.Handy
import Derived.Deep.CutBlock
import Derived.Deep.CutRange
import Derived.Deep.QuietTactic
import Derived.BigQuiet
namespace Go.Proofs.YtpecmkkcepnpeaaDoor
set_option linter.unusedVariables false
set_option linter.unusedSimpArgs false
open Go.RowKit

/-- a reader: its bytes, its place, its first error -/
structure Rdr where
  b : List UInt8
  p : Nat
  err : Int
def Rdr.fail (r : Rdr) (e : Int) : Rdr := if r.err = 0 then { r with err := e } else r
def Rdr.num (r : Rdr) (n : Nat) : Nat × Rdr :=
  if r.err = 0 then
    if r.p + n ≤ r.b.length then (beN ((r.b.drop r.p).take n), { r with p := r.p + n }) else (0, { r with err := 11 })
  else (0, r)
def Rdr.new (b : List UInt8) : Rdr := ⟨b, 0, 0⟩
def ROk (r : Rdr) : Prop := r.p ≤ r.b.length ∧ r.b.length ≤ 100000000
def RdrR (rb : Nat) (r : Rdr) : HP := ex fun v => sep [pur (ROk r), cl rb 155 #[v, .int .i64 (r.p : Int), .int .i64 r.err], SlB 5 v r.b]
section
variable {w : World} {L : List HP} {rb : Nat} {r : Rdr}
theorem sat_RdrR : SatL w (RdrR rb r :: L) ↔ ∃ v, ROk r ∧ SatL w (cl rb 155 #[v, .int .i64 (r.p : Int), .int .i64 r.err] :: SlB 5 v r.b :: L) := by
  simp only [RdrR, sat_ex, sat_sep, List.cons_append, List.nil_append, sat_pur]
theorem Rdr.num_lt (r : Rdr) (n : Nat) : (r.num n).1 < 256 ^ n := by
  unfold Rdr.num
  have h0 : 0 < 256 ^ n := Nat.pow_pos (by omega)
  split
  · split
    · have := beN_lt ((r.b.drop r.p).take n)
      have e : ((r.b.drop r.p).take n).length = n := by rw [List.length_take, List.length_drop]; omega
      rwa [e] at this
    · exact h0
  · exact h0
theorem fail_ok {e : Int} (h : SatL w (RdrR rb r :: L)) :
    Calls Tryd.prog 82 #[.pointer (some ⟨rb, 0, none⟩), .int .i64 e] w (Ret fun v w' => SatL w' (RdrR rb (r.fail e) :: L)) := by
  obtain ⟨v, ok, h0⟩ := sat_RdrR.1 h
  have c2 := SatL.cell (h0 : SatL w (cl _ _ _ :: _)) (i := 2) (v := .int .i64 r.err) rfl
  have f2 := SatL.free (h0 : SatL w (cl _ _ _ :: _)) 2
  have hs := SatL.set (h0 : SatL w (cl _ _ _ :: _)) (i := 2) (.int .i64 e)
  obtain ⟨B, p, E⟩ := r
  dsimp only at *
  have Hs := hid hs
  have Ok := hid ok
  clear hs ok h0
  by_cases h1 : E = 0
  · subst h1
    go_enter Tryd.func82, Tryd.ntmps82
    go_wp2
    go_end0
    exact Ret.mk (sat_RdrR.2 ⟨v, Ok.out, Hs.out⟩)
  · have h2 : (E == 0) = false := by simpa using h1
    have e1 : Rdr.fail ⟨B, p, E⟩ e = ⟨B, p, E⟩ := if_neg h1
    rw [e1]
    clear h1 e1
    go_enter Tryd.func82, Tryd.ntmps82
    go_wp2
    go_end0
    exact Ret.mk h
theorem number_ok {n : Nat} (hn : sizeOk n) (h : SatL w (RdrR rb r :: L)) :
    Calls Tryd.prog 75 #[.pointer (some ⟨rb, 0, none⟩), .int .i64 n] w (Ret fun v w' => v = .int .u64 ((r.num n).1 : Int) ∧ SatL w' (RdrR rb (r.num n).2 :: L)) := by
  obtain ⟨v, ok, h0⟩ := sat_RdrR.1 h
  have hnb : n ≤ 8 := by rcases hn with rfl | rfl | rfl | rfl <;> omega
  obtain ⟨B, p, E⟩ := r
  have hop : p ≤ B.length ∧ B.length ≤ 100000000 := ok
  dsimp only at *
  have c0 := SatL.cell (h0 : SatL w (cl _ _ _ :: _)) (i := 0) (v := v) rfl
  have c1 := SatL.cell (h0 : SatL w (cl _ _ _ :: _)) (i := 1) (v := .int .i64 (p : Int)) rfl
  have hrd : RdB v B w.drew := SlB.rd (SatL.tail h0)
  have S0 : w.drew.cell? ⟨rb, 0, none⟩ = some v ∧ w.drew.cell? ⟨rb, 1, none⟩ = some (.int .i64 (p : Int)) := ⟨c0, c1⟩
  have hfl := hid (fun (e : Int) => fail_ok (e := e) (sat_drew.2 h))
  have hwr : IntKind.i64.wrap ((p : Int) + n) = ((p + n : Nat) : Int) := by rw [IntWalk.i64_in _ (by omega)]; omega
  clear h h0
  by_cases hin : p + n ≤ B.length
  · have kb := be_in hn hin hrd
    have kf := hfl.out 0
    by_cases hE : E = 0
    · subst hE
      have e1 : Rdr.num ⟨B, p, 0⟩ n = (beN ((B.drop p).take n), ⟨B, p + n, 0⟩) := by unfold Rdr.num; rw [if_pos rfl, if_pos hin]
      have e2 : Rdr.fail ⟨B, p, 0⟩ 0 = ⟨B, p, 0⟩ := if_pos rfl
      rw [e2] at kf
      rw [e1]
      have Ok2 := hid (show ROk ⟨B, p + n, 0⟩ from ⟨hin, hop.2⟩)
      generalize beN ((B.drop p).take n) = x at *
      clear e1 e2 hin hrd ok
      go_enter Tryd.func75, Tryd.ntmps75
      go_upto_region 1 with fail
      refine GoE.start (fun w' => w'.cell? ⟨rb, 0, none⟩ = some v ∧ w'.cell? ⟨rb, 1, none⟩ = some (.int .i64 (p : Int))) 14 15 rfl (by kernel_rfl) ?_
      refine GoE.take (i := 0) (v := ?_) rfl (by decide) (by kernel_rfl) (by kernel_rfl) (by kernel_rfl) (by kernel_rfl) (fun _ _ _ h => h) (by rfl) ?_ (by assumption) ?_
      rotate_left
      · intro w hSw; (try dsimp only at hSw); go_simp; try (with_reducible rfl)
      try simp only [Act.put, List.setIfInBounds_toArray, List.set_cons_zero, List.set_cons_succ]
      refine GoE.take (i := 1) (v := ?_) rfl (by decide) (by kernel_rfl) (by kernel_rfl) (by kernel_rfl) (by kernel_rfl) (fun _ _ _ h => h) (by rfl) ?_ (by assumption) ?_
      rotate_left
      · intro w hSw; (try dsimp only at hSw); go_simp; try (with_reducible rfl)
      try simp only [Act.put, List.setIfInBounds_toArray, List.set_cons_zero, List.set_cons_succ]
      refine GoE.take (i := 2) (v := ?_) rfl (by decide) (by kernel_rfl) (by kernel_rfl) (by kernel_rfl) (by kernel_rfl) (fun _ _ _ h => h) (by rfl) ?_ (by assumption) ?_
      rotate_left
      · intro w hSw; (try dsimp only at hSw); go_simp; try (with_reducible rfl)
      try simp only [Act.put, List.setIfInBounds_toArray, List.set_cons_zero, List.set_cons_succ]
      refine GoE.take (i := 3) (v := ?_) rfl (by decide) (by kernel_rfl) (by kernel_rfl) (by kernel_rfl) (by kernel_rfl) (fun _ _ _ h => h) (by rfl) ?_ (by assumption) ?_
      rotate_left
      · intro w hSw; (try dsimp only at hSw); go_simp; try (with_reducible rfl)
      try simp only [Act.put, List.setIfInBounds_toArray, List.set_cons_zero, List.set_cons_succ]
      refine GoE.take (i := 4) (v := ?_) rfl (by decide) (by kernel_rfl) (by kernel_rfl) (by kernel_rfl) (by kernel_rfl) (fun _ _ _ h => h) (by rfl) ?_ (by assumption) ?_
      rotate_left
      · intro w hSw; (try dsimp only at hSw); go_simp; try (with_reducible rfl)
      try simp only [Act.put, List.setIfInBounds_toArray, List.set_cons_zero, List.set_cons_succ]
      refine GoE.take (i := 5) (v := ?_) rfl (by decide) (by kernel_rfl) (by kernel_rfl) (by kernel_rfl) (by kernel_rfl) (fun _ _ _ h => h) (by rfl) ?_ (by assumption) ?_
      rotate_left
      · intro w hSw; (try dsimp only at hSw); go_simp; try (with_reducible rfl)
      try simp only [Act.put, List.setIfInBounds_toArray, List.set_cons_zero, List.set_cons_succ]
      refine GoE.take (i := 6) (v := ?_) rfl (by decide) (by kernel_rfl) (by kernel_rfl) (by kernel_rfl) (by kernel_rfl) (fun _ _ _ h => h) (by rfl) ?_ (by assumption) ?_
      rotate_left
      · intro w hSw; (try dsimp only at hSw); go_simp; try (with_reducible rfl)
      try simp only [Act.put, List.setIfInBounds_toArray, List.set_cons_zero, List.set_cons_succ]
      refine GoE.take (i := 7) (v := ?_) rfl (by decide) (by kernel_rfl) (by kernel_rfl) (by kernel_rfl) (by kernel_rfl) (fun _ _ _ h => h) (by rfl) ?_ (by assumption) ?_
      rotate_left
      · intro w hSw; (try dsimp only at hSw); go_simp; try (with_reducible rfl)
      try simp only [Act.put, List.setIfInBounds_toArray, List.set_cons_zero, List.set_cons_succ]
      refine GoE.take (i := 8) (v := ?_) rfl (by decide) (by kernel_rfl) (by kernel_rfl) (by kernel_rfl) (by kernel_rfl) (fun _ _ _ h => h) (by rfl) ?_ (by assumption) ?_
      rotate_left
      · intro w hSw; (try dsimp only at hSw); go_simp; try (with_reducible rfl)
      try simp only [Act.put, List.setIfInBounds_toArray, List.set_cons_zero, List.set_cons_succ]
      refine GoE.one (i := 9) rfl (by kernel_rfl) (fun K hK => ?_)
      go_simp
      go_at_call 38
      (with_reducible refine (kb).mono ?_)
      rintro e w1 ⟨rfl, rfl⟩
      go_wp2_with fail
      refine hK.out _ _ (fun _ => S0) ?_
      clear hK K
      try simp only [Act.put, List.setIfInBounds_toArray, List.set_cons_zero, List.set_cons_succ]
      refine GoE.take (i := 10) (v := ?_) rfl (by decide) (by kernel_rfl) (by kernel_rfl) (by kernel_rfl) (by kernel_rfl) (fun _ _ _ h => h) (by rfl) ?_ (by assumption) ?_
      rotate_left
      · intro w hSw; (try dsimp only at hSw); go_simp; try (with_reducible rfl)
      try simp only [Act.put, List.setIfInBounds_toArray, List.set_cons_zero, List.set_cons_succ]
      refine GoE.take (i := 11) (v := ?_) rfl (by decide) (by kernel_rfl) (by kernel_rfl) (by kernel_rfl) (by kernel_rfl) (fun _ _ _ h => h) (by rfl) ?_ (by assumption) ?_
      rotate_left
      · intro w hSw; (try dsimp only at hSw); go_simp; try (with_reducible rfl)
      try simp only [Act.put, List.setIfInBounds_toArray, List.set_cons_zero, List.set_cons_succ]
      refine GoE.take (i := 12) (v := ?_) rfl (by decide) (by kernel_rfl) (by kernel_rfl) (by kernel_rfl) (by kernel_rfl) (fun _ _ _ h => h) (by rfl) ?_ (by assumption) ?_
      rotate_left
      · intro w hSw; (try dsimp only at hSw); go_simp; try (with_reducible rfl)
      try simp only [Act.put, List.setIfInBounds_toArray, List.set_cons_zero, List.set_cons_succ]
      refine GoE.take (i := 13) (v := ?_) rfl (by decide) (by kernel_rfl) (by kernel_rfl) (by kernel_rfl) (by kernel_rfl) (fun _ _ _ h => h) (by rfl) ?_ (by assumption) ?_
      rotate_left
      · intro w hSw; (try dsimp only at hSw); go_simp; try (with_reducible rfl)
      try simp only [Act.put, List.setIfInBounds_toArray, List.set_cons_zero, List.set_cons_succ]
      refine GoE.one (i := 14) rfl (by kernel_rfl) (fun K hK => ?_)
      go_simp
      refine hK.out _ _ (fun h => absurd rfl h) ?_
      clear hK K
      try simp only [Act.put, List.setIfInBounds_toArray, List.set_cons_zero, List.set_cons_succ]
      refine GoE.done (by kernel_rfl) ?_
      go_wp2_with (first
        | (go_at_call 82; (with_reducible refine kf.mono ?_); rintro e w2 ⟨vv, rfl, h2⟩; obtain ⟨v2, ok2, h3⟩ := sat_RdrR.1 h2; have d1 := SatL.cell (h3 : SatL w2 (cl _ _ _ :: _)) (i := 1) (v := .int .i64 (p : Int)) rfl; have d2 := SatL.cell (h3 : SatL w2 (cl _ _ _ :: _)) (i := 2) (v := .int .i64 0) rfl; have f1 := SatL.free (h3 : SatL w2 (cl _ _ _ :: _)) 1))
      go_ret
      exact Ret.mk ⟨rfl, sat_RdrR.2 ⟨v2, Ok2.out, SatL.set (h3 : SatL w2 (cl _ _ _ :: _)) (i := 1) _⟩⟩
    · have e1 : Rdr.num ⟨B, p, E⟩ n = (0, ⟨B, p, E⟩) := by unfold Rdr.num; rw [if_neg hE]
      have e2 : Rdr.fail ⟨B, p, E⟩ 0 = ⟨B, p, E⟩ := if_neg hE
      have h2 : (E == 0) = false := by simpa using hE
      rw [e2] at kf
      rw [e1]
      generalize beN ((B.drop p).take n) = x at *
      clear e1 e2 hE hin hrd ok
      go_enter Tryd.func75, Tryd.ntmps75
      go_upto_region 1 with fail
      refine GoE.start (fun w' => w'.cell? ⟨rb, 0, none⟩ = some v ∧ w'.cell? ⟨rb, 1, none⟩ = some (.int .i64 (p : Int))) 14 15 rfl (by kernel_rfl) ?_
      refine GoE.take (i := 0) (v := ?_) rfl (by decide) (by kernel_rfl) (by kernel_rfl) (by kernel_rfl) (by kernel_rfl) (fun _ _ _ h => h) (by rfl) ?_ (by assumption) ?_
      rotate_left
      · intro w hSw; (try dsimp only at hSw); go_simp; try (with_reducible rfl)
      try simp only [Act.put, List.setIfInBounds_toArray, List.set_cons_zero, List.set_cons_succ]
      refine GoE.take (i := 1) (v := ?_) rfl (by decide) (by kernel_rfl) (by kernel_rfl) (by kernel_rfl) (by kernel_rfl) (fun _ _ _ h => h) (by rfl) ?_ (by assumption) ?_
      rotate_left
      · intro w hSw; (try dsimp only at hSw); go_simp; try (with_reducible rfl)
      try simp only [Act.put, List.setIfInBounds_toArray, List.set_cons_zero, List.set_cons_succ]
      refine GoE.take (i := 2) (v := ?_) rfl (by decide) (by kernel_rfl) (by kernel_rfl) (by kernel_rfl) (by kernel_rfl) (fun _ _ _ h => h) (by rfl) ?_ (by assumption) ?_
      rotate_left
      · intro w hSw; (try dsimp only at hSw); go_simp; try (with_reducible rfl)
      try simp only [Act.put, List.setIfInBounds_toArray, List.set_cons_zero, List.set_cons_succ]
      refine GoE.take (i := 3) (v := ?_) rfl (by decide) (by kernel_rfl) (by kernel_rfl) (by kernel_rfl) (by kernel_rfl) (fun _ _ _ h => h) (by rfl) ?_ (by assumption) ?_
      rotate_left
      · intro w hSw; (try dsimp only at hSw); go_simp; try (with_reducible rfl)
      try simp only [Act.put, List.setIfInBounds_toArray, List.set_cons_zero, List.set_cons_succ]
      refine GoE.take (i := 4) (v := ?_) rfl (by decide) (by kernel_rfl) (by kernel_rfl) (by kernel_rfl) (by kernel_rfl) (fun _ _ _ h => h) (by rfl) ?_ (by assumption) ?_
      rotate_left
      · intro w hSw; (try dsimp only at hSw); go_simp; try (with_reducible rfl)
      try simp only [Act.put, List.setIfInBounds_toArray, List.set_cons_zero, List.set_cons_succ]
      refine GoE.take (i := 5) (v := ?_) rfl (by decide) (by kernel_rfl) (by kernel_rfl) (by kernel_rfl) (by kernel_rfl) (fun _ _ _ h => h) (by rfl) ?_ (by assumption) ?_
      rotate_left
      · intro w hSw; (try dsimp only at hSw); go_simp; try (with_reducible rfl)
      try simp only [Act.put, List.setIfInBounds_toArray, List.set_cons_zero, List.set_cons_succ]
      refine GoE.take (i := 6) (v := ?_) rfl (by decide) (by kernel_rfl) (by kernel_rfl) (by kernel_rfl) (by kernel_rfl) (fun _ _ _ h => h) (by rfl) ?_ (by assumption) ?_
      rotate_left
      · intro w hSw; (try dsimp only at hSw); go_simp; try (with_reducible rfl)
      try simp only [Act.put, List.setIfInBounds_toArray, List.set_cons_zero, List.set_cons_succ]
      refine GoE.take (i := 7) (v := ?_) rfl (by decide) (by kernel_rfl) (by kernel_rfl) (by kernel_rfl) (by kernel_rfl) (fun _ _ _ h => h) (by rfl) ?_ (by assumption) ?_
      rotate_left
      · intro w hSw; (try dsimp only at hSw); go_simp; try (with_reducible rfl)
      try simp only [Act.put, List.setIfInBounds_toArray, List.set_cons_zero, List.set_cons_succ]
      refine GoE.take (i := 8) (v := ?_) rfl (by decide) (by kernel_rfl) (by kernel_rfl) (by kernel_rfl) (by kernel_rfl) (fun _ _ _ h => h) (by rfl) ?_ (by assumption) ?_
      rotate_left
      · intro w hSw; (try dsimp only at hSw); go_simp; try (with_reducible rfl)
      try simp only [Act.put, List.setIfInBounds_toArray, List.set_cons_zero, List.set_cons_succ]
      refine GoE.one (i := 9) rfl (by kernel_rfl) (fun K hK => ?_)
      go_simp
      go_at_call 38
      (with_reducible refine (kb).mono ?_)
      rintro e w1 ⟨rfl, rfl⟩
      go_wp2_with fail
      refine hK.out _ _ (fun _ => S0) ?_
      clear hK K
      try simp only [Act.put, List.setIfInBounds_toArray, List.set_cons_zero, List.set_cons_succ]
      refine GoE.take (i := 10) (v := ?_) rfl (by decide) (by kernel_rfl) (by kernel_rfl) (by kernel_rfl) (by kernel_rfl) (fun _ _ _ h => h) (by rfl) ?_ (by assumption) ?_
      rotate_left
      · intro w hSw; (try dsimp only at hSw); go_simp; try (with_reducible rfl)
      try simp only [Act.put, List.setIfInBounds_toArray, List.set_cons_zero, List.set_cons_succ]
      refine GoE.take (i := 11) (v := ?_) rfl (by decide) (by kernel_rfl) (by kernel_rfl) (by kernel_rfl) (by kernel_rfl) (fun _ _ _ h => h) (by rfl) ?_ (by assumption) ?_
      rotate_left
      · intro w hSw; (try dsimp only at hSw); go_simp; try (with_reducible rfl)
      try simp only [Act.put, List.setIfInBounds_toArray, List.set_cons_zero, List.set_cons_succ]
      refine GoE.take (i := 12) (v := ?_) rfl (by decide) (by kernel_rfl) (by kernel_rfl) (by kernel_rfl) (by kernel_rfl) (fun _ _ _ h => h) (by rfl) ?_ (by assumption) ?_
      rotate_left
      · intro w hSw; (try dsimp only at hSw); go_simp; try (with_reducible rfl)
      try simp only [Act.put, List.setIfInBounds_toArray, List.set_cons_zero, List.set_cons_succ]
      refine GoE.take (i := 13) (v := ?_) rfl (by decide) (by kernel_rfl) (by kernel_rfl) (by kernel_rfl) (by kernel_rfl) (fun _ _ _ h => h) (by rfl) ?_ (by assumption) ?_
      rotate_left
      · intro w hSw; (try dsimp only at hSw); go_simp; try (with_reducible rfl)
      try simp only [Act.put, List.setIfInBounds_toArray, List.set_cons_zero, List.set_cons_succ]
      refine GoE.one (i := 14) rfl (by kernel_rfl) (fun K hK => ?_)
      go_simp
      refine hK.out _ _ (fun h => absurd rfl h) ?_
      clear hK K
      try simp only [Act.put, List.setIfInBounds_toArray, List.set_cons_zero, List.set_cons_succ]
      refine GoE.done (by kernel_rfl) ?_
      go_wp2_with (first
        | (go_at_call 82; (with_reducible refine kf.mono ?_); rintro e w2 ⟨vv, rfl, h2⟩; obtain ⟨v2, ok2, h3⟩ := sat_RdrR.1 h2; have d2 := SatL.cell (h3 : SatL w2 (cl _ _ _ :: _)) (i := 2) (v := .int .i64 E) rfl))
      go_ret
      exact Ret.mk ⟨rfl, h2⟩
  · have kb := be_no (v := v) (l := B) (at_ := p) hn (by omega) (by omega) hrd
    have kf := hfl.out 11
    by_cases hE : E = 0
    · subst hE
      have e1 : Rdr.num ⟨B, p, 0⟩ n = (0, ⟨B, p, 11⟩) := by unfold Rdr.num; rw [if_pos rfl, if_neg hin]
      have e2 : Rdr.fail ⟨B, p, 0⟩ 11 = ⟨B, p, 11⟩ := if_pos rfl
      rw [e2] at kf
      rw [e1]
      clear e1 e2 hin hrd ok
      go_enter Tryd.func75, Tryd.ntmps75
      go_upto_region 1 with fail
      refine GoE.start (fun w' => w'.cell? ⟨rb, 0, none⟩ = some v ∧ w'.cell? ⟨rb, 1, none⟩ = some (.int .i64 (p : Int))) 14 15 rfl (by kernel_rfl) ?_
      refine GoE.take (i := 0) (v := ?_) rfl (by decide) (by kernel_rfl) (by kernel_rfl) (by kernel_rfl) (by kernel_rfl) (fun _ _ _ h => h) (by rfl) ?_ (by assumption) ?_
      rotate_left
      · intro w hSw; (try dsimp only at hSw); go_simp; try (with_reducible rfl)
      try simp only [Act.put, List.setIfInBounds_toArray, List.set_cons_zero, List.set_cons_succ]
      refine GoE.take (i := 1) (v := ?_) rfl (by decide) (by kernel_rfl) (by kernel_rfl) (by kernel_rfl) (by kernel_rfl) (fun _ _ _ h => h) (by rfl) ?_ (by assumption) ?_
      rotate_left
      · intro w hSw; (try dsimp only at hSw); go_simp; try (with_reducible rfl)
      try simp only [Act.put, List.setIfInBounds_toArray, List.set_cons_zero, List.set_cons_succ]
      refine GoE.take (i := 2) (v := ?_) rfl (by decide) (by kernel_rfl) (by kernel_rfl) (by kernel_rfl) (by kernel_rfl) (fun _ _ _ h => h) (by rfl) ?_ (by assumption) ?_
      rotate_left
      · intro w hSw; (try dsimp only at hSw); go_simp; try (with_reducible rfl)
      try simp only [Act.put, List.setIfInBounds_toArray, List.set_cons_zero, List.set_cons_succ]
      refine GoE.take (i := 3) (v := ?_) rfl (by decide) (by kernel_rfl) (by kernel_rfl) (by kernel_rfl) (by kernel_rfl) (fun _ _ _ h => h) (by rfl) ?_ (by assumption) ?_
      rotate_left
      · intro w hSw; (try dsimp only at hSw); go_simp; try (with_reducible rfl)
      try simp only [Act.put, List.setIfInBounds_toArray, List.set_cons_zero, List.set_cons_succ]
      refine GoE.take (i := 4) (v := ?_) rfl (by decide) (by kernel_rfl) (by kernel_rfl) (by kernel_rfl) (by kernel_rfl) (fun _ _ _ h => h) (by rfl) ?_ (by assumption) ?_
      rotate_left
      · intro w hSw; (try dsimp only at hSw); go_simp; try (with_reducible rfl)
      try simp only [Act.put, List.setIfInBounds_toArray, List.set_cons_zero, List.set_cons_succ]
      refine GoE.take (i := 5) (v := ?_) rfl (by decide) (by kernel_rfl) (by kernel_rfl) (by kernel_rfl) (by kernel_rfl) (fun _ _ _ h => h) (by rfl) ?_ (by assumption) ?_
      rotate_left
      · intro w hSw; (try dsimp only at hSw); go_simp; try (with_reducible rfl)
      try simp only [Act.put, List.setIfInBounds_toArray, List.set_cons_zero, List.set_cons_succ]
      refine GoE.take (i := 6) (v := ?_) rfl (by decide) (by kernel_rfl) (by kernel_rfl) (by kernel_rfl) (by kernel_rfl) (fun _ _ _ h => h) (by rfl) ?_ (by assumption) ?_
      rotate_left
      · intro w hSw; (try dsimp only at hSw); go_simp; try (with_reducible rfl)
      try simp only [Act.put, List.setIfInBounds_toArray, List.set_cons_zero, List.set_cons_succ]
      refine GoE.take (i := 7) (v := ?_) rfl (by decide) (by kernel_rfl) (by kernel_rfl) (by kernel_rfl) (by kernel_rfl) (fun _ _ _ h => h) (by rfl) ?_ (by assumption) ?_
      rotate_left
      · intro w hSw; (try dsimp only at hSw); go_simp; try (with_reducible rfl)
      try simp only [Act.put, List.setIfInBounds_toArray, List.set_cons_zero, List.set_cons_succ]
      refine GoE.take (i := 8) (v := ?_) rfl (by decide) (by kernel_rfl) (by kernel_rfl) (by kernel_rfl) (by kernel_rfl) (fun _ _ _ h => h) (by rfl) ?_ (by assumption) ?_
      rotate_left
      · intro w hSw; (try dsimp only at hSw); go_simp; try (with_reducible rfl)
      try simp only [Act.put, List.setIfInBounds_toArray, List.set_cons_zero, List.set_cons_succ]
      refine GoE.one (i := 9) rfl (by kernel_rfl) (fun K hK => ?_)
      go_simp
      go_at_call 38
      (with_reducible refine (kb).mono ?_)
      rintro e w1 ⟨rfl, rfl⟩
      go_wp2_with fail
      refine hK.out _ _ (fun _ => S0) ?_
      clear hK K
      try simp only [Act.put, List.setIfInBounds_toArray, List.set_cons_zero, List.set_cons_succ]
      refine GoE.take (i := 10) (v := ?_) rfl (by decide) (by kernel_rfl) (by kernel_rfl) (by kernel_rfl) (by kernel_rfl) (fun _ _ _ h => h) (by rfl) ?_ (by assumption) ?_
      rotate_left
      · intro w hSw; (try dsimp only at hSw); go_simp; try (with_reducible rfl)
      try simp only [Act.put, List.setIfInBounds_toArray, List.set_cons_zero, List.set_cons_succ]
      refine GoE.take (i := 11) (v := ?_) rfl (by decide) (by kernel_rfl) (by kernel_rfl) (by kernel_rfl) (by kernel_rfl) (fun _ _ _ h => h) (by rfl) ?_ (by assumption) ?_
      rotate_left
      · intro w hSw; (try dsimp only at hSw); go_simp; try (with_reducible rfl)
      try simp only [Act.put, List.setIfInBounds_toArray, List.set_cons_zero, List.set_cons_succ]
      refine GoE.take (i := 12) (v := ?_) rfl (by decide) (by kernel_rfl) (by kernel_rfl) (by kernel_rfl) (by kernel_rfl) (fun _ _ _ h => h) (by rfl) ?_ (by assumption) ?_
      rotate_left
      · intro w hSw; (try dsimp only at hSw); go_simp; try (with_reducible rfl)
      try simp only [Act.put, List.setIfInBounds_toArray, List.set_cons_zero, List.set_cons_succ]
      refine GoE.take (i := 13) (v := ?_) rfl (by decide) (by kernel_rfl) (by kernel_rfl) (by kernel_rfl) (by kernel_rfl) (fun _ _ _ h => h) (by rfl) ?_ (by assumption) ?_
      rotate_left
      · intro w hSw; (try dsimp only at hSw); go_simp; try (with_reducible rfl)
      try simp only [Act.put, List.setIfInBounds_toArray, List.set_cons_zero, List.set_cons_succ]
      refine GoE.one (i := 14) rfl (by kernel_rfl) (fun K hK => ?_)
      go_simp
      refine hK.out _ _ (fun h => absurd rfl h) ?_
      clear hK K
      try simp only [Act.put, List.setIfInBounds_toArray, List.set_cons_zero, List.set_cons_succ]
      refine GoE.done (by kernel_rfl) ?_
      go_wp2_with (first
        | (go_at_call 82; (with_reducible refine kf.mono ?_); rintro e w2 ⟨vv, rfl, h2⟩; obtain ⟨v2, ok2, h3⟩ := sat_RdrR.1 h2; have d2 := SatL.cell (h3 : SatL w2 (cl _ _ _ :: _)) (i := 2) (v := .int .i64 11) rfl))
      go_ret
      exact Ret.mk ⟨rfl, h2⟩
    · have e1 : Rdr.num ⟨B, p, E⟩ n = (0, ⟨B, p, E⟩) := by unfold Rdr.num; rw [if_neg hE]
      have e2 : Rdr.fail ⟨B, p, E⟩ 11 = ⟨B, p, E⟩ := if_neg hE
      have h2 : (E == 0) = false := by simpa using hE
      rw [e2] at kf
      rw [e1]
      clear e1 e2 hE hin hrd ok
      go_enter Tryd.func75, Tryd.ntmps75
      go_upto_region 1 with fail
      refine GoE.start (fun w' => w'.cell? ⟨rb, 0, none⟩ = some v ∧ w'.cell? ⟨rb, 1, none⟩ = some (.int .i64 (p : Int))) 14 15 rfl (by kernel_rfl) ?_
      refine GoE.take (i := 0) (v := ?_) rfl (by decide) (by kernel_rfl) (by kernel_rfl) (by kernel_rfl) (by kernel_rfl) (fun _ _ _ h => h) (by rfl) ?_ (by assumption) ?_
      rotate_left
      · intro w hSw; (try dsimp only at hSw); go_simp; try (with_reducible rfl)
      try simp only [Act.put, List.setIfInBounds_toArray, List.set_cons_zero, List.set_cons_succ]
      refine GoE.take (i := 1) (v := ?_) rfl (by decide) (by kernel_rfl) (by kernel_rfl) (by kernel_rfl) (by kernel_rfl) (fun _ _ _ h => h) (by rfl) ?_ (by assumption) ?_
      rotate_left
      · intro w hSw; (try dsimp only at hSw); go_simp; try (with_reducible rfl)
      try simp only [Act.put, List.setIfInBounds_toArray, List.set_cons_zero, List.set_cons_succ]
      refine GoE.take (i := 2) (v := ?_) rfl (by decide) (by kernel_rfl) (by kernel_rfl) (by kernel_rfl) (by kernel_rfl) (fun _ _ _ h => h) (by rfl) ?_ (by assumption) ?_
      rotate_left
      · intro w hSw; (try dsimp only at hSw); go_simp; try (with_reducible rfl)
      try simp only [Act.put, List.setIfInBounds_toArray, List.set_cons_zero, List.set_cons_succ]
      refine GoE.take (i := 3) (v := ?_) rfl (by decide) (by kernel_rfl) (by kernel_rfl) (by kernel_rfl) (by kernel_rfl) (fun _ _ _ h => h) (by rfl) ?_ (by assumption) ?_
      rotate_left
      · intro w hSw; (try dsimp only at hSw); go_simp; try (with_reducible rfl)
      try simp only [Act.put, List.setIfInBounds_toArray, List.set_cons_zero, List.set_cons_succ]
      refine GoE.take (i := 4) (v := ?_) rfl (by decide) (by kernel_rfl) (by kernel_rfl) (by kernel_rfl) (by kernel_rfl) (fun _ _ _ h => h) (by rfl) ?_ (by assumption) ?_
      rotate_left
      · intro w hSw; (try dsimp only at hSw); go_simp; try (with_reducible rfl)
      try simp only [Act.put, List.setIfInBounds_toArray, List.set_cons_zero, List.set_cons_succ]
      refine GoE.take (i := 5) (v := ?_) rfl (by decide) (by kernel_rfl) (by kernel_rfl) (by kernel_rfl) (by kernel_rfl) (fun _ _ _ h => h) (by rfl) ?_ (by assumption) ?_
      rotate_left
      · intro w hSw; (try dsimp only at hSw); go_simp; try (with_reducible rfl)
      try simp only [Act.put, List.setIfInBounds_toArray, List.set_cons_zero, List.set_cons_succ]
      refine GoE.take (i := 6) (v := ?_) rfl (by decide) (by kernel_rfl) (by kernel_rfl) (by kernel_rfl) (by kernel_rfl) (fun _ _ _ h => h) (by rfl) ?_ (by assumption) ?_
      rotate_left
      · intro w hSw; (try dsimp only at hSw); go_simp; try (with_reducible rfl)
      try simp only [Act.put, List.setIfInBounds_toArray, List.set_cons_zero, List.set_cons_succ]
      refine GoE.take (i := 7) (v := ?_) rfl (by decide) (by kernel_rfl) (by kernel_rfl) (by kernel_rfl) (by kernel_rfl) (fun _ _ _ h => h) (by rfl) ?_ (by assumption) ?_
      rotate_left
      · intro w hSw; (try dsimp only at hSw); go_simp; try (with_reducible rfl)
      try simp only [Act.put, List.setIfInBounds_toArray, List.set_cons_zero, List.set_cons_succ]
      refine GoE.take (i := 8) (v := ?_) rfl (by decide) (by kernel_rfl) (by kernel_rfl) (by kernel_rfl) (by kernel_rfl) (fun _ _ _ h => h) (by rfl) ?_ (by assumption) ?_
      rotate_left
      · intro w hSw; (try dsimp only at hSw); go_simp; try (with_reducible rfl)
      try simp only [Act.put, List.setIfInBounds_toArray, List.set_cons_zero, List.set_cons_succ]
      refine GoE.one (i := 9) rfl (by kernel_rfl) (fun K hK => ?_)
      go_simp
      go_at_call 38
      (with_reducible refine (kb).mono ?_)
      rintro e w1 ⟨rfl, rfl⟩
      go_wp2_with fail
      refine hK.out _ _ (fun _ => S0) ?_
      clear hK K
      try simp only [Act.put, List.setIfInBounds_toArray, List.set_cons_zero, List.set_cons_succ]
      refine GoE.take (i := 10) (v := ?_) rfl (by decide) (by kernel_rfl) (by kernel_rfl) (by kernel_rfl) (by kernel_rfl) (fun _ _ _ h => h) (by rfl) ?_ (by assumption) ?_
      rotate_left
      · intro w hSw; (try dsimp only at hSw); go_simp; try (with_reducible rfl)
      try simp only [Act.put, List.setIfInBounds_toArray, List.set_cons_zero, List.set_cons_succ]
      refine GoE.take (i := 11) (v := ?_) rfl (by decide) (by kernel_rfl) (by kernel_rfl) (by kernel_rfl) (by kernel_rfl) (fun _ _ _ h => h) (by rfl) ?_ (by assumption) ?_
      rotate_left
      · intro w hSw; (try dsimp only at hSw); go_simp; try (with_reducible rfl)
      try simp only [Act.put, List.setIfInBounds_toArray, List.set_cons_zero, List.set_cons_succ]
      refine GoE.take (i := 12) (v := ?_) rfl (by decide) (by kernel_rfl) (by kernel_rfl) (by kernel_rfl) (by kernel_rfl) (fun _ _ _ h => h) (by rfl) ?_ (by assumption) ?_
      rotate_left
      · intro w hSw; (try dsimp only at hSw); go_simp; try (with_reducible rfl)
      try simp only [Act.put, List.setIfInBounds_toArray, List.set_cons_zero, List.set_cons_succ]
      refine GoE.take (i := 13) (v := ?_) rfl (by decide) (by kernel_rfl) (by kernel_rfl) (by kernel_rfl) (by kernel_rfl) (fun _ _ _ h => h) (by rfl) ?_ (by assumption) ?_
      rotate_left
      · intro w hSw; (try dsimp only at hSw); go_simp; try (with_reducible rfl)
      try simp only [Act.put, List.setIfInBounds_toArray, List.set_cons_zero, List.set_cons_succ]
      refine GoE.one (i := 14) rfl (by kernel_rfl) (fun K hK => ?_)
      go_simp
      refine hK.out _ _ (fun h => absurd rfl h) ?_
      clear hK K
      try simp only [Act.put, List.setIfInBounds_toArray, List.set_cons_zero, List.set_cons_succ]
      refine GoE.done (by kernel_rfl) ?_
      go_wp2_with (first
        | (go_at_call 82; (with_reducible refine kf.mono ?_); rintro e w2 ⟨vv, rfl, h2⟩; obtain ⟨v2, ok2, h3⟩ := sat_RdrR.1 h2; have d2 := SatL.cell (h3 : SatL w2 (cl _ _ _ :: _)) (i := 2) (v := .int .i64 E) rfl))
      go_ret
      exact Ret.mk ⟨rfl, h2⟩
theorem u32_ok (h : SatL w (RdrR rb r :: L)) :
    Calls Tryd.prog 46 #[.pointer (some ⟨rb, 0, none⟩)] w (Ret fun v w' => v = .int .u32 ((r.num 4).1 : Int) ∧ SatL w' (RdrR rb (r.num 4).2 :: L)) := by
  have kn := number_ok (n := 4) (.inr (.inr (.inl rfl))) h
  have hlt := r.num_lt 4
  have hwr : IntKind.u32.wrap ((r.num 4).1 : Int) = ((r.num 4).1 : Int) := u32_in _ hlt
  rw [show ((4 : Nat) : Int) = 4 from rfl] at kn
  clear h
  go_enter Tryd.func46, Tryd.ntmps46
  go_wp2_with (go_at_call 75; (with_reducible refine kn.mono ?_); rintro e w1 ⟨v, rfl, rfl, h1⟩)
  go_ret
  exact Ret.mk ⟨rfl, h1⟩
theorem left_ok (h : SatL w (RdrR rb r :: L)) :
    Calls Tryd.prog 50 #[.pointer (some ⟨rb, 0, none⟩)] w (Ret fun v w' => v = .int .i64 ((r.b.length : Int) - r.p) ∧ SatL w' (RdrR rb r :: L)) := by
  obtain ⟨v, ok, h0⟩ := sat_RdrR.1 h
  have c0 := SatL.cell (h0 : SatL w (cl _ _ _ :: _)) (i := 0) (v := v) rfl
  have c1 := SatL.cell (h0 : SatL w (cl _ _ _ :: _)) (i := 1) (v := .int .i64 (r.p : Int)) rfl
  obtain ⟨a, c, rfl, _, _⟩ := SlB.valn (SatL.tail h0)
  have H := hid h
  obtain ⟨B, p, E⟩ := r
  have hop : p ≤ B.length ∧ B.length ≤ 100000000 := ok
  dsimp only at *
  clear h h0 ok
  go_enter Tryd.func50, Tryd.ntmps50
  go_wp2_with fail
  go_quiet (fail)
  go_wp2
  go_ret
  exact Ret.mk ⟨rfl, H.out⟩
theorem at_ok (h : SatL w (RdrR rb r :: L)) :
    Calls Tryd.prog 47 #[.pointer (some ⟨rb, 0, none⟩)] w (Ret fun v w' => v = .int .i64 (r.p : Int) ∧ w = w') := by
  obtain ⟨v, ok, h0⟩ := sat_RdrR.1 h
  have c1 := SatL.cell (h0 : SatL w (cl _ _ _ :: _)) (i := 1) (v := .int .i64 (r.p : Int)) rfl
  clear h h0 ok
  go_enter Tryd.func47, Tryd.ntmps47
  go_wp2
  go_ret
  exact Ret.mk ⟨rfl, rfl⟩
theorem err_ok (h : SatL w (RdrR rb r :: L)) :
    Calls Tryd.prog 48 #[.pointer (some ⟨rb, 0, none⟩)] w (Ret fun v w' => v = .int .i64 r.err ∧ w = w') := by
  obtain ⟨v, ok, h0⟩ := sat_RdrR.1 h
  have c2 := SatL.cell (h0 : SatL w (cl _ _ _ :: _)) (i := 2) (v := .int .i64 r.err) rfl
  clear h h0 ok
  go_enter Tryd.func48, Tryd.ntmps48
  go_wp2
  go_ret
  exact Ret.mk ⟨rfl, rfl⟩
theorem newreader_ok {v : Value} {xs : List UInt8} (h : SatL w L) (g : Gives L (RdB v xs)) (hb : xs.length ≤ 100000000) :
    Calls Tryd.prog 45 #[v] w (Ret fun q w' => ∃ rb, q = .pointer (some ⟨rb, 0, none⟩) ∧ SatL w' (RdrR rb (Rdr.new xs) :: L)) := by
  have kc := clone_rd h g (by omega)
  clear h g
  go_enter Tryd.func45, Tryd.ntmps45
  go_wp2_with (go_at_call 65; (with_reducible refine kc.mono ?_); rintro e w1 ⟨v1, rfl, h1⟩; obtain ⟨a, c, rfl, _, _⟩ := SlB.valn h1)
  go_ret
  exact Ret.mk ⟨_, rfl, sat_RdrR.2 ⟨_, ⟨Nat.zero_le _, hb⟩, h1.alloc _⟩⟩
end
end Go.Proofs.YtpecmkkcepnpeaaDoor
