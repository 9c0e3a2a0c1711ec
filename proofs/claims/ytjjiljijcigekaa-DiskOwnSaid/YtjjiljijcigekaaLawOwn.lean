/- DiskOwn: blocks that are told are the caller's own; two disks do not see one another. No condition. -/
import Derived.Test.YtjjiljijcigekaaLaw2C
namespace Go.Proofs.Ytjjiljijcigekaa
set_option linter.unusedVariables false
set_option linter.unusedSimpArgs false
open Go.RowKit
set_option maxRecDepth 100000 in
set_option maxHeartbeats 8000000 in
theorem own_walk (a0 : Option Addr) (l0 c0 : Nat) (At : Nat → Int) (B : Nat → Nat) (w : World) (hC : CRow a0 l0 At B w) (hB : ∀ i, B i < 256) :
    Calls Try.prog 3 #[.slice a0 l0 c0] w (Ret fun v w' => v = .bool true ∧ SatL w' [old w]) := by
  have hk := known_ok (sat_old w)
  have HgC := hid (gives_crow (L := []) hC)
  have HB := hid hB
  have hnew := fun (w' : World) (L' : List HP) (h : SatL w' L') => new_ok (n := 8) (by omega) h
  rw [show ((8 : Nat) : Int) = 8 from rfl] at hnew
  have Hnew := hid hnew
  clear hC hB hnew
  go_enter Try.func3, Try.ntmps3
  go_wp2_with (first
    | (go_at_call 8; (with_reducible refine hk.mono ?_); rintro e w1 ⟨v, rfl, rfl, h1⟩)
    | (go_at_call 9; (with_reducible refine (Hnew.out _ _ h1).mono ?_); rintro e w2 ⟨v, rfl, d1, rfl, h2⟩)
    | (go_at_call 9; (with_reducible refine (Hnew.out _ _ h2).mono ?_); rintro e w3 ⟨v, rfl, d2, rfl, h3⟩))
  go_loopw [7] (fun i wr => ∃ j : Nat, j ≤ l0 ∧ j ≤ 20 ∧ i = .int .i64 j ∧ SatL wr (DskR d1 (wrS 8 At B j) :: DskR d2 (Dsk.new 8) :: [old w])) (fun i _ => l0 - (intOf i).toNat)
  case atStart => exact ⟨0, by omega, by omega, rfl, h3.swap⟩
  case round =>
    clear h1 h2 h3 hk Hnew
    obtain ⟨j, hj, hj2, rfl, hs⟩ := hrel
    by_cases hlt : j < l0 ∧ j < 20
    · obtain ⟨hlt, h20⟩ := hlt
      obtain ⟨b, o, rfl, hx⟩ := (HgC.out wr hs.tail.tail).2 (by omega)
      clear hx
      have hcl := hid (fun (w' : World) (h : SatL w' [old w]) => (by
        obtain ⟨_, hc⟩ := HgC.out w' h
        obtain ⟨b', o', e, hc⟩ := hc (by omega)
        cases e
        exact hc j hlt : w'.cell? ⟨b, o + j * 5 + 1, none⟩ = some (.int .i64 (At j)) ∧ w'.cell? ⟨b, o + j * 5 + 3, none⟩ = some (.int .u8 (B j))))
      have hd := sat_drew.2 hs
      have S0 := hcl.out _ hd.tail.tail
      have hwj := fun (w : World) => within_ok (At j) (n := 8) (by omega) w
      have hbl := block_ok (HB.out j) hd
      have hwr := fun (w' : World) (va : Option Addr) (vn vc : Nat) (L' : List HP) (h : SatL w' (DskR d1 (wrS 8 At B j) :: L')) (g : Gives L' (RdB (.slice va vn vc) (blockB (B j)))) => wrS_ok (n := 8) (by omega) (by omega) h g
      rw [show ((8 : Nat) : Int) = 8 from rfl] at hwj
      generalize wi (At j) 8 = p at *
      generalize At j = atj at *
      generalize blockB (B j) = BB at *
      generalize B j = bj at *
      have Hwj := hid hwj
      have Hwr := hid hwr
      clear hwj hwr hs
      go_wp2
      refine GoE.start (fun w' => w'.cell? ⟨b, o + j * 5 + 1, none⟩ = some (.int .i64 atj) ∧ w'.cell? ⟨b, o + j * 5 + 3, none⟩ = some (.int .u8 bj)) 13 14 rfl (by kernel_rfl) ?_
      refine GoE.take (i := 0) (v := ?_) rfl (by decide) (by kernel_rfl) (by kernel_rfl) (by kernel_rfl) (by kernel_rfl) (fun _ _ _ h => h) (by rfl) ?_ (by assumption) ?_
      rotate_left
      · intro w hSw; (try dsimp only at hSw); go_simp; try (with_reducible rfl)
      try simp only [Act.put, List.setIfInBounds_toArray, List.set_cons_zero, List.set_cons_succ]
      refine GoE.take (i := 1) (v := ?_) rfl (by decide) (by kernel_rfl) (by kernel_rfl) (by kernel_rfl) (by kernel_rfl) (fun _ _ _ h => h) (by rfl) ?_ (by assumption) ?_
      rotate_left
      · intro w hSw; (try dsimp only at hSw); go_simp; try (with_reducible rfl)
      try simp only [Act.put, List.setIfInBounds_toArray, List.set_cons_zero, List.set_cons_succ]
      refine GoE.take (i := 2) (v := ?_) rfl (by decide) (by kernel_rfl) (by kernel_rfl) (by kernel_rfl) (by kernel_rfl) (fun _ _ _ h => h) (by rfl) ?_ (by assumption) ?_
      rotate_left
      · intro w hSw; (try dsimp only at hSw); go_simp; try (with_reducible rfl)
      try simp only [Act.put, List.setIfInBounds_toArray, List.set_cons_zero, List.set_cons_succ]
      refine GoE.take (i := 3) (v := ?_) rfl (by decide) (by kernel_rfl) (by kernel_rfl) (by kernel_rfl) (by kernel_rfl) (fun _ _ _ h => h) (by rfl) ?_ (by assumption) ?_
      rotate_left
      · intro w hSw; (try dsimp only at hSw); go_simp; try (with_reducible rfl)
      try simp only [Act.put, List.setIfInBounds_toArray, List.set_cons_zero, List.set_cons_succ]
      refine GoE.take (i := 4) (v := ?_) rfl (by decide) (by kernel_rfl) (by kernel_rfl) (by kernel_rfl) (by kernel_rfl) (fun _ _ _ h => h) (by rfl) ?_ (by assumption) ?_
      rotate_left
      · intro w hSw; (try dsimp only at hSw); go_simp; try (with_reducible rfl)
      try simp only [Act.put, List.setIfInBounds_toArray, List.set_cons_zero, List.set_cons_succ]
      refine GoE.take (i := 5) (v := ?_) rfl (by decide) (by kernel_rfl) (by kernel_rfl) (by kernel_rfl) (by kernel_rfl) (fun _ _ _ h => h) (by rfl) ?_ (by assumption) ?_
      rotate_left
      · intro w hSw; (try dsimp only at hSw); go_simp; try (with_reducible rfl)
      try simp only [Act.put, List.setIfInBounds_toArray, List.set_cons_zero, List.set_cons_succ]
      refine GoE.take (i := 7) (v := ?_) rfl (by decide) (by kernel_rfl) (by kernel_rfl) (by kernel_rfl) (by kernel_rfl) (fun _ _ _ h => h) (by rfl) ?_ (by assumption) ?_
      rotate_left
      · intro w hSw; (try dsimp only at hSw); go_simp; try (with_reducible rfl)
      try simp only [Act.put, List.setIfInBounds_toArray, List.set_cons_zero, List.set_cons_succ]
      refine GoE.take (i := 8) (v := ?_) rfl (by decide) (by kernel_rfl) (by kernel_rfl) (by kernel_rfl) (by kernel_rfl) (fun _ _ _ h => h) (by rfl) ?_ (by assumption) ?_
      rotate_left
      · intro w hSw; (try dsimp only at hSw); go_simp; try (with_reducible rfl)
      try simp only [Act.put, List.setIfInBounds_toArray, List.set_cons_zero, List.set_cons_succ]
      refine GoE.take (i := 9) (v := ?_) rfl (by decide) (by kernel_rfl) (by kernel_rfl) (by kernel_rfl) (by kernel_rfl) (fun _ _ _ h => h) (by rfl) ?_ (by assumption) ?_
      rotate_left
      · intro w hSw; (try dsimp only at hSw); go_simp; try (with_reducible rfl)
      try simp only [Act.put, List.setIfInBounds_toArray, List.set_cons_zero, List.set_cons_succ]
      refine GoE.take (i := 10) (v := ?_) rfl (by decide) (by kernel_rfl) (by kernel_rfl) (by kernel_rfl) (by kernel_rfl) (fun _ _ _ h => h) (by rfl) ?_ (by assumption) ?_
      rotate_left
      · intro w hSw; (try dsimp only at hSw); go_simp; try (with_reducible rfl)
      try simp only [Act.put, List.setIfInBounds_toArray, List.set_cons_zero, List.set_cons_succ]
      refine GoE.take (i := 11) (v := ?_) rfl (by decide) (by kernel_rfl) (by kernel_rfl) (by kernel_rfl) (by kernel_rfl) (fun _ _ _ h => h) (by rfl) ?_ (by assumption) ?_
      rotate_left
      · intro w hSw; (try dsimp only at hSw); go_simp; try (with_reducible rfl)
      try simp only [Act.put, List.setIfInBounds_toArray, List.set_cons_zero, List.set_cons_succ]
      refine GoE.one (i := 6) rfl (by kernel_rfl) (fun K hK => ?_)
      go_simp
      go_at_call 11
      (with_reducible refine (Hwj.out _).mono ?_)
      rintro e w' ⟨v, rfl, rfl, rfl⟩
      go_wp2_with fail
      refine hK.out _ _ (fun _ => S0) ?_
      clear hK K
      try simp only [Act.put, List.setIfInBounds_toArray, List.set_cons_zero, List.set_cons_succ]
      refine GoE.one (i := 12) rfl (by kernel_rfl) (fun K hK => ?_)
      go_simp
      go_at_call 12
      (with_reducible refine hbl.mono ?_)
      rintro e w5 ⟨v, rfl, va, vc, rfl, v1, h5⟩
      have S5 := hcl.out _ h5.tail.tail.tail
      go_wp2_with fail
      refine hK.out _ _ (fun _ => S5) ?_
      clear hK K
      try simp only [Act.put, List.setIfInBounds_toArray, List.set_cons_zero, List.set_cons_succ]
      refine GoE.one (i := 13) rfl (by kernel_rfl) (fun K hK => ?_)
      go_simp
      go_at_call 10
      (with_reducible refine (Hwr.out _ _ _ _ _ h5.swap SlB.gives).mono ?_)
      rintro e w6 ⟨v, rfl, rfl, h6⟩
      go_wp2_with fail
      refine hK.out _ _ (fun h => absurd rfl h) ?_
      clear hK K
      try simp only [Act.put, List.setIfInBounds_toArray, List.set_cons_zero, List.set_cons_succ]
      refine GoE.done (by kernel_rfl) ?_
      have h7 := SatL.tail h6.swap
      go_wp2
      go_roundw
      case rel => exact ⟨j + 1, by omega, by omega, by go_num, h7⟩
      case measure => simp [intOf]; omega
    · have hout : ((j : Int) < l0) = False ∨ ((j : Int) < l0) = True ∧ ((j : Int) < 20) = False := by
        by_cases h1 : j < l0
        · right
          exact ⟨by simp; omega, by simp; omega⟩
        · left; simp; omega
      clear hlt
      have hrd := fun (w' : World) (L' : List HP) (h : SatL w' (DskR d1 (wrS 8 At B j) :: L')) => read_ok (p := 0) (n := 8) (by omega) (by rw [wrS_n]; omega) (fun i => Nat.le_trans (wrS_le 8 At B j i) (by omega)) h
      have hrd2 := fun (w' : World) (L' : List HP) (h : SatL w' (DskR d2 (Dsk.new 8) :: L')) => read_ok (p := 0) (n := 8) (by omega) (by show 0 + 8 ≤ 8; omega) (fun i => Nat.le_trans (new_le 8 i) (by omega)) h
      have hdi := fun (w' : World) (L' : List HP) (h : SatL w' (DskR d2 (Dsk.new 8) :: L')) => dirty_ok h
      rw [show ((8 : Nat) : Int) = 8 from rfl, show ((0 : Nat) : Int) = 0 from rfl] at hrd hrd2
      rw [dirty_new] at hdi
      rw [read_new, show 512 * 8 = 4096 from rfl] at hrd2
      have Hz := hid (bvs_zeros 4096)
      have hRl := hid (show ((wrS 8 At B j).read 0 8).length ≤ 4096 by obtain ⟨_, _, _, _, fl, ok, _⟩ := DskR.form hs; exact Nat.le_of_eq (read_len ok 8 (by rw [wrS_n]; omega)))
      generalize (wrS 8 At B j).read 0 8 = R at *
      generalize wrS 8 At B j = s1 at *
      generalize Dsk.new 8 = s2 at *
      generalize (List.replicate 4096 0 : List UInt8) = Z at *
      have Hrd := hid hrd
      have Hrd2 := hid hrd2
      have Hdi := hid hdi
      clear hrd hrd2 hdi
      rcases hout with hout | ⟨hout, hout2⟩
      all_goals
        go_wp2_with (first
          | (go_at_call 13; (with_reducible refine (Hrd.out _ _ hs).mono ?_); rintro e w4 ⟨v, rfl, xv, rfl, h4⟩)
          | (go_at_call 13; (with_reducible refine (Hrd.out _ _ h4.swap).mono ?_); rintro e w5 ⟨v, rfl, yv, rfl, h5⟩; have yc := RdB.conv (SlB.rd h5); obtain ⟨xa, xc, rfl, x1, x2⟩ := SlB.valn (SatL.pull h5 2 : SatL w5 (SlB _ _ R :: _))))
        have hxl := bvs_len R
        obtain ⟨nx, hnx⟩ : ∃ nx, nx = R.length := ⟨_, rfl⟩
        rw [← hnx] at hxl h5 x1 ⊢
        have Hnx := hid hnx
        clear hnx
        go_loopw [13] (fun i wr => ∃ (k : Nat) (xs : List Value), k ≤ nx ∧ i = .int .i64 k ∧ xs.length = nx ∧ SatL wr (Sl 5 (.slice xa nx xc) xs :: SlB 5 yv R :: DskR d1 s1 :: DskR d2 s2 :: [old w])) (fun i _ => nx - (intOf i).toNat)
        case atStart => exact ⟨0, bvs R, by omega, rfl, hxl, h5.bring [2, 0, 1, 3]⟩
        case round =>
          clear h4 h5 yc hxl
          obtain ⟨k, xs, hk, rfl, hxs, hs⟩ := hrel
          by_cases hlt : k < nx
          · obtain ⟨xb, xo, rfl⟩ := Sl.addr hs (by omega)
            obtain ⟨xk, hxk⟩ : ∃ xk, xs[k]? = some xk := ⟨_, List.getElem?_eq_getElem (by omega)⟩
            have cx := Sl.cell hs (i := k) hxk
            have hkz : (k : Int) < (nx : Int) := by omega
            clear hxk
            have fx := Sl.free hs (xo + k)
            have hset := hid (Sl.set hs (i := k) (by omega) (.int .u8 238))
            have hlen := hid (show (xs.set k (.int .u8 238)).length = nx by rw [List.length_set]; exact hxs)
            clear hxs hs
            go_wp2
            go_roundw
            case rel => exact ⟨k + 1, _, by omega, by go_num, hlen.out, hset.out⟩
            case measure => simp [intOf]; omega
          · obtain rfl : k = nx := by omega
            have hxl := hid hxs
            clear hxs
            go_wp2
            go_loopw [8, 14] (fun xv i wr => ∃ (k' : Nat) (xs : List Value), k' ≤ 20 ∧ i = .int .i64 k' ∧ xs.length ≤ k + k' ∧ SatL wr (Sl 5 xv xs :: SlB 5 yv R :: DskR d1 s1 :: DskR d2 s2 :: [old w])) (fun _ i _ => 20 - (intOf i).toNat)
            case atStart => exact ⟨0, xs, by omega, rfl, by have := hxl.out; omega, hs⟩
            case round =>
              clear hs hxl
              obtain ⟨q, xs, hq, rfl, hxs, hs⟩ := hrel
              by_cases hlt : q < 20
              · obtain ⟨va, vc, rfl, v1, v2⟩ := Sl.valn hs (m := xs.length) rfl
                have b1 : (xs.length + 1) * 1 ≤ 140737488355328 := by have := hRl.out; have := Hnx.out; omega
                have hqz : (q : Int) < 20 := by omega
                go_wp2_with (first | (at_builtin; refine wpList_push_sl rfl (.tmp 84) (.tmp 85) rfl elem_byte (by omega) rfl hs rfl rfl b1 ?_; intro v9 w9 h9))
                go_roundw
                case rel => exact ⟨q + 1, _, by omega, by go_num, by rw [List.length_append, List.length_singleton]; omega, h9⟩
                case measure => simp [intOf]; omega
              · have hqz : ¬ (q : Int) < 20 := by omega
                go_wp2_with (first
                  | (go_at_call 13; (with_reducible refine (Hrd.out _ _ (hs.bring [2, 0, 1, 3])).mono ?_); rintro e w6 ⟨v, rfl, zv, rfl, h6⟩)
                  | (go_at_call 13; (with_reducible refine (Hrd2.out _ _ (h6.bring [4, 0, 1, 2, 3])).mono ?_); rintro e w7 ⟨v, rfl, wv, rfl, h7⟩))
                have hd := sat_drew.2 h7
                have S0 := And.intro (RdB.conv (SlB.rd (hd.pull 5 : SatL w7.drew (SlB _ yv R :: _)))) (And.intro (RdB.conv (SlB.rd (hd.pull 2 : SatL w7.drew (SlB _ zv R :: _)))) (RdB.conv (SlB.rd hd)))
                refine GoE.start (fun w' => (convert 33 9 yv).run Try.prog w' = .ok (.string ⟨R.toArray⟩) w' ∧ (convert 33 9 zv).run Try.prog w' = .ok (.string ⟨R.toArray⟩) w' ∧ (convert 33 9 wv).run Try.prog w' = .ok (.string ⟨Z.toArray⟩) w') 23 24 rfl (by kernel_rfl) ?_
                refine GoE.take (i := 0) (v := ?_) rfl (by decide) (by kernel_rfl) (by kernel_rfl) (by kernel_rfl) (by kernel_rfl) (fun _ _ _ h => h) (by rfl) ?_ (by assumption) ?_
                rotate_left
                · intro w hSw; (try dsimp only at hSw); go_simp; try (with_reducible rfl)
                try simp only [Act.put, List.setIfInBounds_toArray, List.set_cons_zero, List.set_cons_succ]
                refine GoE.take (i := 1) (v := ?_) rfl (by decide) (by kernel_rfl) (by kernel_rfl) (by kernel_rfl) (by kernel_rfl) (fun _ _ _ h => h) (by rfl) ?_ (by assumption) ?_
                rotate_left
                · intro w hSw; (try dsimp only at hSw); go_simp; try (with_reducible rfl)
                try simp only [Act.put, List.setIfInBounds_toArray, List.set_cons_zero, List.set_cons_succ]
                refine GoE.take (i := 2) (v := ?_) rfl (by decide) (by kernel_rfl) (by kernel_rfl) (by kernel_rfl) (by kernel_rfl) (fun _ _ _ h => h) (by rfl) ?_ (by assumption) ?_
                rotate_left
                · intro w hSw; (try dsimp only at hSw); go_simp; try (with_reducible rfl)
                try simp only [Act.put, List.setIfInBounds_toArray, List.set_cons_zero, List.set_cons_succ]
                refine GoE.take (i := 3) (v := ?_) rfl (by decide) (by kernel_rfl) (by kernel_rfl) (by kernel_rfl) (by kernel_rfl) (fun _ _ _ h => h) (by rfl) ?_ (by assumption) ?_
                rotate_left
                · intro w hSw; (try dsimp only at hSw); go_simp; try (with_reducible rfl)
                try simp only [Act.put, List.setIfInBounds_toArray, List.set_cons_zero, List.set_cons_succ]
                refine GoE.take (i := 4) (v := ?_) rfl (by decide) (by kernel_rfl) (by kernel_rfl) (by kernel_rfl) (by kernel_rfl) (fun _ _ _ h => h) (by rfl) ?_ (by assumption) ?_
                rotate_left
                · intro w hSw; (try dsimp only at hSw); go_simp; try (with_reducible rfl)
                try simp only [Act.put, List.setIfInBounds_toArray, List.set_cons_zero, List.set_cons_succ]
                refine GoE.take (i := 5) (v := ?_) rfl (by decide) (by kernel_rfl) (by kernel_rfl) (by kernel_rfl) (by kernel_rfl) (fun _ _ _ h => h) (by rfl) ?_ (by assumption) ?_
                rotate_left
                · intro w hSw; (try dsimp only at hSw); go_simp; try (with_reducible rfl)
                try simp only [Act.put, List.setIfInBounds_toArray, List.set_cons_zero, List.set_cons_succ]
                refine GoE.take (i := 6) (v := ?_) rfl (by decide) (by kernel_rfl) (by kernel_rfl) (by kernel_rfl) (by kernel_rfl) (fun _ _ _ h => h) (by rfl) ?_ (by assumption) ?_
                rotate_left
                · intro w hSw; (try dsimp only at hSw); go_simp; try (with_reducible rfl)
                try simp only [Act.put, List.setIfInBounds_toArray, List.set_cons_zero, List.set_cons_succ]
                refine GoE.take (i := 7) (v := ?_) rfl (by decide) (by kernel_rfl) (by kernel_rfl) (by kernel_rfl) (by kernel_rfl) (fun _ _ _ h => h) (by rfl) ?_ (by assumption) ?_
                rotate_left
                · intro w hSw; (try dsimp only at hSw); go_simp; try (with_reducible rfl)
                try simp only [Act.put, List.setIfInBounds_toArray, List.set_cons_zero, List.set_cons_succ]
                refine GoE.take (i := 8) (v := ?_) rfl (by decide) (by kernel_rfl) (by kernel_rfl) (by kernel_rfl) (by kernel_rfl) (fun _ _ _ h => h) (by rfl) ?_ (by assumption) ?_
                rotate_left
                · intro w hSw; (try dsimp only at hSw); go_simp; try (with_reducible rfl)
                try simp only [Act.put, List.setIfInBounds_toArray, List.set_cons_zero, List.set_cons_succ]
                refine GoE.take (i := 9) (v := ?_) rfl (by decide) (by kernel_rfl) (by kernel_rfl) (by kernel_rfl) (by kernel_rfl) (fun _ _ _ h => h) (by rfl) ?_ (by assumption) ?_
                rotate_left
                · intro w hSw; (try dsimp only at hSw); go_simp; try (with_reducible rfl)
                try simp only [Act.put, List.setIfInBounds_toArray, List.set_cons_zero, List.set_cons_succ]
                refine GoE.take (i := 10) (v := ?_) rfl (by decide) (by kernel_rfl) (by kernel_rfl) (by kernel_rfl) (by kernel_rfl) (fun _ _ _ h => h) (by rfl) ?_ (by assumption) ?_
                rotate_left
                · intro w hSw; (try dsimp only at hSw); go_simp; try (with_reducible rfl)
                try simp only [Act.put, List.setIfInBounds_toArray, List.set_cons_zero, List.set_cons_succ]
                refine GoE.take (i := 11) (v := ?_) rfl (by decide) (by kernel_rfl) (by kernel_rfl) (by kernel_rfl) (by kernel_rfl) (fun _ _ _ h => h) (by rfl) ?_ (by assumption) ?_
                rotate_left
                · intro w hSw; (try dsimp only at hSw); go_simp; try (with_reducible rfl)
                try simp only [Act.put, List.setIfInBounds_toArray, List.set_cons_zero, List.set_cons_succ]
                refine GoE.take (i := 12) (v := ?_) rfl (by decide) (by kernel_rfl) (by kernel_rfl) (by kernel_rfl) (by kernel_rfl) (fun _ _ _ h => h) (by rfl) ?_ (by assumption) ?_
                rotate_left
                · intro w hSw; (try dsimp only at hSw); go_simp; try (with_reducible rfl)
                try simp only [Act.put, List.setIfInBounds_toArray, List.set_cons_zero, List.set_cons_succ]
                refine GoE.one (i := 13) rfl (by kernel_rfl) (fun K hK => ?_)
                refine step_make_sl (by rfl) (.const (.int .i64 4096)) (.const (.int .i64 4096)) rfl elem_byte 4096 rfl rfl hd (by omega) (by omega) ?_
                intro w8 nb h8
                rw [← Hz.out] at h8
                have S8 := And.intro (RdB.conv (SlB.rd (h8.pull 6 : SatL w8 (SlB _ yv R :: _)))) (And.intro (RdB.conv (SlB.rd (h8.pull 3 : SatL w8 (SlB _ zv R :: _)))) (RdB.conv (SlB.rd (h8.pull 1 : SatL w8 (SlB _ wv Z :: _)))))
                have S8z := RdB.conv (SlB.rd (h8 : SatL w8 (SlB 5 _ Z :: _)))
                refine hK.out _ _ (fun _ => S8) ?_
                clear hK K
                try simp only [Act.put, List.setIfInBounds_toArray, List.set_cons_zero, List.set_cons_succ]
                refine GoE.more (fun w' => (convert 33 9 (.slice (some ⟨nb, 0, none⟩) 4096 4096)).run Try.prog w' = .ok (.string ⟨Z.toArray⟩) w' ∧ (convert 33 9 yv).run Try.prog w' = .ok (.string ⟨R.toArray⟩) w' ∧ (convert 33 9 zv).run Try.prog w' = .ok (.string ⟨R.toArray⟩) w' ∧ (convert 33 9 wv).run Try.prog w' = .ok (.string ⟨Z.toArray⟩) w') (fun w h => h.2) ?_
                have S9 := And.intro S8z S8
                refine GoE.take (i := 14) (v := ?_) rfl (by decide) (by kernel_rfl) (by kernel_rfl) (by kernel_rfl) (by kernel_rfl) (fun _ _ _ h => h) (by rfl) ?_ (by assumption) ?_
                rotate_left
                · intro w hSw; (try dsimp only at hSw); go_simp; try (with_reducible rfl)
                try simp only [Act.put, List.setIfInBounds_toArray, List.set_cons_zero, List.set_cons_succ]
                refine GoE.take (i := 15) (v := ?_) rfl (by decide) (by kernel_rfl) (by kernel_rfl) (by kernel_rfl) (by kernel_rfl) (fun _ _ _ h => h) (by rfl) ?_ (by assumption) ?_
                rotate_left
                · intro w hSw; (try dsimp only at hSw); go_simp; try (with_reducible rfl)
                try simp only [Act.put, List.setIfInBounds_toArray, List.set_cons_zero, List.set_cons_succ]
                refine GoE.take (i := 16) (v := ?_) rfl (by decide) (by kernel_rfl) (by kernel_rfl) (by kernel_rfl) (by kernel_rfl) (fun _ _ _ h => h) (by rfl) ?_ (by assumption) ?_
                rotate_left
                · intro w hSw; (try dsimp only at hSw); go_simp; try (with_reducible rfl)
                try simp only [Act.put, List.setIfInBounds_toArray, List.set_cons_zero, List.set_cons_succ]
                refine GoE.take (i := 17) (v := ?_) rfl (by decide) (by kernel_rfl) (by kernel_rfl) (by kernel_rfl) (by kernel_rfl) (fun _ _ _ h => h) (by rfl) ?_ (by assumption) ?_
                rotate_left
                · intro w hSw; (try dsimp only at hSw); go_simp; try (with_reducible rfl)
                try simp only [Act.put, List.setIfInBounds_toArray, List.set_cons_zero, List.set_cons_succ]
                refine GoE.take (i := 18) (v := ?_) rfl (by decide) (by kernel_rfl) (by kernel_rfl) (by kernel_rfl) (by kernel_rfl) (fun _ _ _ h => h) (by rfl) ?_ (by assumption) ?_
                rotate_left
                · intro w hSw; (try dsimp only at hSw); go_simp; try (with_reducible rfl)
                try simp only [Act.put, List.setIfInBounds_toArray, List.set_cons_zero, List.set_cons_succ]
                refine GoE.one (i := 19) rfl (by kernel_rfl) (fun K hK => ?_)
                go_simp
                go_at_call 14
                (with_reducible refine (Hdi.out _ _ (h8.bring [2, 0, 1, 3, 4, 5, 6])).mono ?_)
                rintro e w10 ⟨v10, rfl, h10⟩
                obtain ⟨da, dc, rfl, _, _⟩ := Sl.valn h10 (m := 0) rfl
                have S10 := And.intro (RdB.conv (SlB.rd (h10.pull 2 : SatL w10 (SlB 5 _ Z :: _)))) (And.intro (RdB.conv (SlB.rd (h10.pull 7 : SatL w10 (SlB _ yv R :: _)))) (And.intro (RdB.conv (SlB.rd (h10.pull 4 : SatL w10 (SlB _ zv R :: _)))) (RdB.conv (SlB.rd (h10.pull 3 : SatL w10 (SlB _ wv Z :: _))))))
                go_wp2_with fail
                refine hK.out _ _ (fun _ => S10) ?_
                clear hK K
                try simp only [Act.put, List.setIfInBounds_toArray, List.set_cons_zero, List.set_cons_succ]
                refine GoE.take (i := 20) (v := ?_) rfl (by decide) (by kernel_rfl) (by kernel_rfl) (by kernel_rfl) (by kernel_rfl) (fun _ _ _ h => h) (by rfl) ?_ (by assumption) ?_
                rotate_left
                · intro w hSw; (try dsimp only at hSw); go_simp; try (with_reducible rfl)
                try simp only [Act.put, List.setIfInBounds_toArray, List.set_cons_zero, List.set_cons_succ]
                refine GoE.take (i := 21) (v := ?_) rfl (by decide) (by kernel_rfl) (by kernel_rfl) (by kernel_rfl) (by kernel_rfl) (fun _ _ _ h => h) (by rfl) ?_ (by assumption) ?_
                rotate_left
                · intro w hSw; (try dsimp only at hSw); go_simp; try (with_reducible rfl)
                try simp only [Act.put, List.setIfInBounds_toArray, List.set_cons_zero, List.set_cons_succ]
                refine GoE.take (i := 22) (v := ?_) rfl (by decide) (by kernel_rfl) (by kernel_rfl) (by kernel_rfl) (by kernel_rfl) (fun _ _ _ h => h) (by rfl) ?_ (by assumption) ?_
                rotate_left
                · intro w hSw; (try dsimp only at hSw); go_simp; try (with_reducible rfl)
                try simp only [Act.put, List.setIfInBounds_toArray, List.set_cons_zero, List.set_cons_succ]
                refine GoE.one (i := 23) rfl (by kernel_rfl) (fun K hK => ?_)
                go_simp
                refine hK.out _ _ (fun h => absurd rfl h) ?_
                clear hK K
                try simp only [Act.put, List.setIfInBounds_toArray, List.set_cons_zero, List.set_cons_succ]
                refine GoE.done (by kernel_rfl) ?_
                go_wp2
                go_ret
                exact Ret.mk ⟨rfl, SatL.tail (SatL.tail (SatL.tail (SatL.tail (SatL.tail (SatL.tail (SatL.tail (SatL.tail h10)))))))⟩
end Go.Proofs.Ytjjiljijcigekaa
