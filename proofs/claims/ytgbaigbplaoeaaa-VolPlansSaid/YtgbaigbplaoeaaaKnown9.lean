/- known of the laws of chapter 9. -/
import Derived.Test.YtgbaigbplaoeaaaFreshB
namespace Go.Proofs.Ytgbaigbplaoeaaa
set_option linter.unusedVariables false
set_option linter.unusedSimpArgs false
open Go.RowKit
theorem g128 : planGood (128 : Nat) (8 : Nat) := by unfold planGood; omega
theorem e128 : planErr (128 : Nat) (8 : Nat) = 0 := by decide
theorem t128 : tableN 128 = 70 := by decide
theorem d128 : dataN 128 8 = 72 := by decide
def p0 : Puts := fun _ => none
def U0 : Nat → Bool := usedP 128 72
def p1 : Puts := upo p0 ((69 : Nat) : Int) (bitsN 512 (fun j => U0 (0 * 4096 + j) || j == 73))
def P1 : Nat → Bool := fun j => U0 (0 * 4096 + j) || j == 73
def p2 : Puts := upo p1 ((69 : Nat) : Int) (bitsN 512 (fun t => P1 t && !(t == 73)))
def U2 : Nat → Bool := fun t => P1 t && !(t == 73)
def p3 : Puts := upo p2 ((69 : Nat) : Int) (bitsN 512 (fun j => U2 (0 * 4096 + j) || j == 73))
theorem p0_512 : Puts512 p0 := fun k d h => by cases h
theorem p1_512 : Puts512 p1 := p0_512.upo (bitsN_len _)
theorem p2_512 : Puts512 p2 := p1_512.upo (bitsN_len _)
section
variable {w : World} {L : List HP} {vb mb : Nat}
theorem known1 (h : SatL w (ViewR vb mb 8 70 72 (mkRows 128 8 0 0) p0 :: L)) : Calls Try.prog 18 #[.pointer (some ⟨vb, 0, none⟩)] w (Ret fun v w' => v = .tuple #[.int .i64 ((73 : Nat) : Int), .nilIface] ∧ SatL w' (ViewR vb mb 8 70 72 (mkRows 128 8 0 0) p1 :: L)) :=
  takeBlock_ok (u := 73) (U := U0) h (by omega) (by rw [mkRows_len]; omega) mkRows_512 p0_512 (by rw [mkRows_len]; omega) (fun k hk => viewAt_bm g128 e128 k (by rw [t128]; exact hk)) (by omega) (by decide) (fun j hj => by unfold U0 usedP; simp; omega)
theorem view1 : viewAt (mkRows 128 8 0 0) p1 69 = bitsN 512 P1 := by unfold p1; rw [viewAt_put, if_pos rfl]; rfl
theorem view2 : viewAt (mkRows 128 8 0 0) p2 69 = bitsN 512 U2 := by unfold p2; rw [viewAt_put, if_pos rfl]; rfl
theorem known2 (h : SatL w (ViewR vb mb 8 70 72 (mkRows 128 8 0 0) p1 :: L)) : Calls Try.prog 19 #[.pointer (some ⟨vb, 0, none⟩), .int .i64 ((73 : Nat) : Int)] w (Ret fun v w' => v = .nilIface ∧ SatL w' (ViewR vb mb 8 70 72 (mkRows 128 8 0 0) p2 :: L)) :=
  giveBlock_ok (j := 73) (P := P1) h (by omega) (by rw [mkRows_len]; omega) (by rw [mkRows_len]; omega) mkRows_512 p1_512 (by rw [mkRows_len]; omega) view1 (by decide)
theorem known3 (h : SatL w (ViewR vb mb 8 70 72 (mkRows 128 8 0 0) p2 :: L)) : Calls Try.prog 18 #[.pointer (some ⟨vb, 0, none⟩)] w (Ret fun v w' => v = .tuple #[.int .i64 ((73 : Nat) : Int), .nilIface] ∧ SatL w' (ViewR vb mb 8 70 72 (mkRows 128 8 0 0) p3 :: L)) :=
  takeBlock_ok (u := 73) (U := U2) h (by omega) (by rw [mkRows_len]; omega) mkRows_512 p2_512 (by rw [mkRows_len]; omega) (fun k hk => by
    obtain rfl : k = 0 := by omega
    rw [Nat.add_zero, view2]
    apply bitsN_congr
    intro j _
    rw [Nat.zero_mul, Nat.zero_add]) (by omega) (by decide) (fun j hj => by unfold U2 P1 U0 usedP; simp; omega)

set_option maxRecDepth 100000 in
set_option maxHeartbeats 1000000 in
theorem known_ok (h : SatL w L) : Calls Try.prog 8 #[] w (Ret fun v w' => v = .bool true ∧ SatL w' L) := by
  have hp := vplan_good g128 e128 h
  rw [t128, d128, show ((128 : Nat) : Int) = 128 from rfl, show ((8 : Nat) : Int) = 8 from rfl] at hp
  have hf := fun (w : World) (L : List HP) (h : SatL w L) => fresh_ok g128 e128 h
  simp only [t128, d128, show ((128 : Nat) : Int) = 128 from rfl, show ((8 : Nat) : Int) = 8 from rfl] at hf
  have h1 := fun (w : World) (L : List HP) (vb mb : Nat) (h : SatL w (ViewR vb mb 8 70 72 (mkRows 128 8 0 0) p0 :: L)) => known1 h
  have h2 := fun (w : World) (L : List HP) (vb mb : Nat) (h : SatL w (ViewR vb mb 8 70 72 (mkRows 128 8 0 0) p1 :: L)) => known2 h
  have h3 := fun (w : World) (L : List HP) (vb mb : Nat) (h : SatL w (ViewR vb mb 8 70 72 (mkRows 128 8 0 0) p2 :: L)) => known3 h
  rw [show ((73 : Nat) : Int) = 73 from rfl] at h1 h2 h3
  have a1 : True := trivial
  go_enter Try.func8, Try.ntmps8
  go_wp2_with (first
    | (go_at_call 25; (with_reducible refine hp.mono ?_); rintro e w1 ⟨v, rfl, rfl, hs1⟩; have k1 := hs1.alloc (.cells #[.int .i64 128, .int .i64 8, .int .i64 1, .int .i64 2, .int .i64 68, .int .i64 69, .int .i64 70, .int .i64 72] 30); have hf1 := hf _ _ k1)
    | (go_at_call 26; (with_reducible refine hf1.mono ?_); rintro e w2 ⟨v, rfl, vb, mb, rfl, hs2⟩; have c7 : w2.cell? ⟨w1.heap.size, 7, none⟩ = some (.int .i64 72) := (hs2.pull 1 : SatL _ (cl _ _ _ :: _)).cell (i := 7) rfl; have m1 := h1 _ _ _ _ hs2)
    | (have _t := a1; go_at_call 18; (with_reducible refine m1.mono ?_); rintro e w3 ⟨v, rfl, rfl, hs3⟩; clear a1; have m2 := h2 _ _ _ _ hs3)
    | (go_at_call 19; (with_reducible refine m2.mono ?_); rintro e w4 ⟨v, rfl, rfl, hs4⟩; have m3 := h3 _ _ _ _ hs4)
    | (go_at_call 18; (with_reducible refine m3.mono ?_); rintro e w5 ⟨v, rfl, rfl, hs5⟩))
  go_ret
  exact Ret.mk ⟨rfl, SatL.tail (SatL.tail hs5)⟩
end
end Go.Proofs.Ytgbaigbplaoeaaa
