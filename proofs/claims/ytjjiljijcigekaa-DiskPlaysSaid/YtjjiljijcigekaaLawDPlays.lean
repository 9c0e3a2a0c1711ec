/- DiskPlays: whatever is written, flushed and lost, both disks answer and stand alike. No condition. -/
import Derived.Test.YtjjiljijcigekaaLaw2H
import Derived.Test.YtjjiljijcigekaaLaw2K
import Derived.Test.YtjjiljijcigekaaTornP
namespace Go.Proofs.Ytjjiljijcigekaa
set_option linter.unusedVariables false
set_option linter.unusedSimpArgs false
open Go.RowKit
theorem plays_no (a0 : Int) (a1 : Option Addr) (n1 c1 : Nat) (w : World) (ha0 : ¬ (1 ≤ a0 ∧ a0 ≤ 65536)) :
    Calls Try.prog 7 #[.int .i64 a0, .slice a1 n1 c1] w (Ret fun v w' => v = .bool true ∧ SatL w' [old w]) := by
  have hk := known_ok (sat_old w)
  have Hn1 := hid (fun (w' : World) => new_no (w := w') ha0)
  have Hn2 := hid (fun (w' : World) => refnew_no (w := w') ha0)
  clear ha0
  go_enter Try.func7, Try.ntmps7
  go_wp2_with (first
    | (go_at_call 8; (with_reducible refine hk.mono ?_); rintro e w1 ⟨v, rfl, rfl, h1⟩)
    | (go_at_call 9; (with_reducible refine (Hn1.out _).mono ?_); rintro e w2 ⟨r, rfl, rfl, rfl⟩)
    | (go_at_call 19; (with_reducible refine (Hn2.out _).mono ?_); rintro e w3 ⟨r, rfl, rfl, rfl⟩))
  go_ret
  exact Ret.mk ⟨rfl, h1⟩
set_option maxRecDepth 100000 in
set_option maxHeartbeats 16000000 in
theorem plays_walk (a0 : Int) (a1 : Option Addr) (n1 c1 : Nat) (K At N : Nat → Int) (B : Nat → Nat) (pa : Nat → Option Addr) (pn pc : Nat → Nat) (Z : Nat → Nat → Int) (w : World)
    (hK : IsRow w 5 a1 n1 (fun i => [.int .i64 (K i), .int .i64 (At i), .int .i64 (N i), .int .u8 (B i), .slice (pa i) (pn i) (pc i)]))
    (hR : ∀ i, i < n1 → B i < 256 ∧ (I64 (At i) ∧ I64 (N i)) ∧ pn i ≤ 17592186044416 ∧ (pn i = 0 → pa i = none → pc i = 0) ∧ (∀ k, k < pn i → -9223372036854775808 ≤ Z i k ∧ Z i k ≤ 9223372036854775807) ∧ IsRow w 1 (pa i) (pn i) (fun k => [.int .i64 (Z i k)])) :
    Calls Try.prog 7 #[.int .i64 a0, .slice a1 n1 c1] w (Ret fun v w' => v = .bool true ∧ SatL w' [old w]) := by
  by_cases ha0 : 1 ≤ a0 ∧ a0 ≤ 65536
  case neg => exact plays_no a0 a1 n1 c1 w ha0
  obtain ⟨n, rfl⟩ := Int.eq_ofNat_of_zero_le (show 0 ≤ a0 by omega)
  have hn : 1 ≤ n ∧ n ≤ 65536 := by omega
  have hk := known_ok (sat_old w)
  have Hn1 := hid (fun (w' : World) (h : SatL w' [old w]) => new_ok hn h)
  have Hn2 := hid (fun (w' : World) (L' : List HP) (h : SatL w' L') => refnew_ok hn h)
  have HgK := hid (gives_row (L := []) hK)
  have HR := hid hR
  have hz300 : ((n : Int) ≤ 300) ∨ ¬ ((n : Int) ≤ 300) := Classical.em _
  have hnz : (n : Int) ≤ 65536 := by omega
  have Hn := hid hn
  clear hK hR ha0 hn
  go_enter Try.func7, Try.ntmps7
  go_upto_region 9 with (first
    | (go_at_call 8; (with_reducible refine hk.mono ?_); rintro e w1 ⟨v, rfl, rfl, h1⟩)
    | (go_at_call 9; (with_reducible refine (Hn1.out _ h1).mono ?_); rintro e w2 ⟨r, rfl, db, rfl, h2⟩)
    | (go_at_call 19; (with_reducible refine (Hn2.out _ _ h2).mono ?_); rintro e w3 ⟨r, rfl, xb, rfl, h3⟩))
  go_upto_if 35 with fail
  go_cut [0] from 34 to 35 (fun _ wr => wr = w3)
  case first =>
    go_wp2
    all_goals (go_meet; exact rfl)
  case rest =>
  obtain rfl := hcut
  have HV0 := hid (show (∀ i, (Dsk.new n).n ≤ i → (Dsk.new n).V i = []) ∧ ∀ i, ((Dsk.new n).V i).length ≤ 0 from ⟨fun _ _ => rfl, fun _ => Nat.le_refl _⟩)
  go_wp2
  go_loopw [9] (fun i wr => ∃ (j : Nat) (s : Dsk), j ≤ n1 ∧ j ≤ 60 ∧ i = .int .i64 j ∧ s.n = n ∧ ((∀ i, n ≤ i → s.V i = []) ∧ ∀ i, (s.V i).length ≤ j) ∧ SatL wr (DskR db s :: RDsk xb s :: [old w])) (fun i _ => n1 - (intOf i).toNat)
  case atStart => exact ⟨0, _, by omega, by omega, rfl, rfl, HV0.out, h3.swap⟩
  case round =>
    clear h3 HV0 hk Hn1 Hn2 h2 h1
    obtain ⟨j, s, hj, hj2, rfl, hsn, hV, hs⟩ := hrel
    have Hsn := hid hsn
    have HV := hid hV
    clear hsn hV
    by_cases hlt : j < n1 ∧ j < 60
    · obtain ⟨hlt, h60⟩ := hlt
      obtain ⟨b, o, rfl, hx⟩ := (HgK.out wr hs.tail.tail).2 (by omega)
      clear hx
      have hcl := hid (fun (w' : World) (h : SatL w' [old w]) => (by
        obtain ⟨_, hc⟩ := HgK.out w' h
        obtain ⟨b', o', e, hc⟩ := hc (by omega)
        cases e
        have d0 := (hc j hlt).2 0 _ rfl
        rw [Nat.add_zero] at d0
        exact ⟨d0, (hc j hlt).2 1 _ rfl, (hc j hlt).2 2 _ rfl, (hc j hlt).2 3 _ rfl, (hc j hlt).2 4 _ rfl⟩ : w'.cell? ⟨b, o + j * 5, none⟩ = some (.int .i64 (K j)) ∧ w'.cell? ⟨b, o + j * 5 + 1, none⟩ = some (.int .i64 (At j)) ∧ w'.cell? ⟨b, o + j * 5 + 2, none⟩ = some (.int .i64 (N j)) ∧ w'.cell? ⟨b, o + j * 5 + 3, none⟩ = some (.int .u8 (B j)) ∧ w'.cell? ⟨b, o + j * 5 + 4, none⟩ = some (.slice (pa j) (pn j) (pc j))))
      obtain ⟨d0, d1, d2, d3, d4⟩ := hcl.out _ hs.tail.tail
      obtain ⟨g1, g2, g3, g4, g5, g6⟩ := HR.out j hlt
      have hdn := done_ok (kd := K j) g1 g2 g3 g4 g5 (by rw [Hsn.out]; exact HV.out.1) (fun i => Nat.le_trans (HV.out.2 i) (by omega)) hs (gives_row (L := []) g6)
      have hV2 := hid (by have := dn_V (kd := K j) (p := At j) (N := N j) (b := B j) (n := pn j) (Z := Z j) (by rw [Hsn.out]; exact HV.out.1) HV.out.2; rwa [Hsn.out] at this)
      have hn2 := hid ((dn_n s (K j) (At j) (N j) (B j) (pn j) (Z j)).trans Hsn.out)
      have hal := hid (fun (w' : World) (h : SatL w' (DskR db (s.dn (K j) (At j) (N j) (B j) (pn j) (Z j)) :: RDsk xb (s.dn (K j) (At j) (N j) (B j) (pn j) (Z j)) :: [old w])) => alike_ok (fun i => Nat.le_trans (hV2.out.2 i) (by omega)) h)
      have hnc := hid (fun (w' : World) (h : SatL w' (DskR db (s.dn (K j) (At j) (N j) (B j) (pn j) (Z j)) :: RDsk xb (s.dn (K j) (At j) (N j) (B j) (pn j) (Z j)) :: [old w])) => (RDsk.n_cell (h.pull 1 : SatL _ (RDsk _ _ :: _))).1)
      generalize K j = kd at *
      generalize At j = atj at *
      generalize N j = nj at *
      generalize B j = bj at *
      generalize pa j = paj at *
      generalize pn j = pnj at *
      generalize pc j = pcj at *
      generalize s.dn kd atj nj bj pnj (Z j) = s' at *
      clear hcl g1 g2 g3 g4 g5 g6 HV Hsn hs
      have hjz : (j : Int) < (n1 : Int) := by omega
      have e1 : Int.tmod (j : Int) 4 = ((j % 4 : Nat) : Int) := by rw [Int.tmod_eq_emod_of_nonneg (by omega)]; omega
      have e2 : (j : Int) % 4 = ((j % 4 : Nat) : Int) := by omega
      go_upto_region 16 with (first
        | (go_at_call 20; (with_reducible refine hdn.mono ?_); rintro e w4 ⟨v, rfl, rfl, h4⟩; have f0 := hnc.out _ h4; rw [hn2.out] at f0))
      clear d0 d1 d2 d3 d4 hdn
      have hr4 : j % 4 < 4 := by omega
      generalize j % 4 = r at *
      by_cases g : r = 3
      · subst g
        by_cases gn : (n : Int) ≤ 300
        · have hal2 := hal.out _ h4
          go_wp2_with (first
            | (go_at_call 21; (with_reducible refine hal2.mono ?_); rintro e w5 ⟨v, rfl, rfl, h5⟩))
          go_roundw
          case rel => exact ⟨j + 1, s', by omega, by omega, by go_num, hn2.out, hV2.out, h5⟩
          case measure => simp [intOf]; omega
        · go_wp2
          go_roundw
          case rel => exact ⟨j + 1, s', by omega, by omega, by go_num, hn2.out, hV2.out, h4⟩
          case measure => simp [intOf]; omega
      · have gz : ¬ (r : Int) = 3 := by omega
        go_wp2
        go_roundw
        case rel => exact ⟨j + 1, s', by omega, by omega, by go_num, hn2.out, hV2.out, h4⟩
        case measure => simp [intOf]; omega
    · have hout : ((j : Int) < n1) = False ∨ ((j : Int) < n1) = True ∧ ((j : Int) < 60) = False := by
        by_cases h1 : j < n1
        · right
          exact ⟨by simp; omega, by simp; omega⟩
        · left; simp; omega
      have f0 := (RDsk.n_cell (hs.pull 1 : SatL _ (RDsk _ _ :: _))).1
      rw [Hsn.out] at f0
      have hal := alike_ok (fun i => Nat.le_trans (HV.out.2 i) (by omega)) hs
      clear hlt HV Hsn HgK HR
      rcases hout with h1 | ⟨h1, h2⟩ <;> by_cases gn : (n : Int) ≤ 300
      all_goals first
        | (go_wp2_with (first
            | (go_at_call 21; (with_reducible refine hal.mono ?_); rintro e w5 ⟨v, rfl, rfl, h5⟩))
           go_ret
           exact Ret.mk ⟨rfl, h5.tail.tail⟩)
        | (go_wp2
           go_ret
           exact Ret.mk ⟨rfl, hs.tail.tail⟩)
end Go.Proofs.Ytjjiljijcigekaa
