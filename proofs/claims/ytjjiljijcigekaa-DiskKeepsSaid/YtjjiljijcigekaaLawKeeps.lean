/- DiskKeeps: behind a flush no crash changes anything; what was not flushed is something that stood there. No condition. -/
import Derived.Test.YtjjiljijcigekaaSeen
namespace Go.Proofs.Ytjjiljijcigekaa
set_option linter.unusedVariables false
set_option linter.unusedSimpArgs false
open Go.RowKit
set_option maxRecDepth 100000 in
set_option maxHeartbeats 16000000 in
theorem keeps_walk (a0 : Option Addr) (l0 c0 : Nat) (At0 : Nat → Int) (B0 : Nat → Nat) (a1 : Option Addr) (l1 c1 : Nat) (At1 : Nat → Int) (B1 : Nat → Nat) (a2 : Option Addr) (l2 c2 : Nat) (Z : Nat → Int) (w : World)
    (hC0 : CRow a0 l0 At0 B0 w) (hB0 : ∀ i, B0 i < 256) (hC1 : CRow a1 l1 At1 B1 w) (hB1 : ∀ i, B1 i < 256) (hZ : ∀ i, i < l2 → -9223372036854775808 ≤ Z i ∧ Z i ≤ 9223372036854775807) (hC2 : IsRow w 1 a2 l2 (fun i => [.int .i64 (Z i)])) :
    Calls Try.prog 5 #[.slice a0 l0 c0, .slice a1 l1 c1, .slice a2 l2 c2] w (Ret fun v w' => v = .bool true ∧ SatL w' [old w]) := by
  have hk := known_ok (sat_old w)
  have HgC0 := hid (gives_crow (L := []) hC0)
  have HgC1 := hid (gives_crow (L := []) hC1)
  have Hg2 := hid (gives_row (L := []) hC2)
  have HB0 := hid hB0
  have HB1 := hid hB1
  have HZ := hid hZ
  have hnew := fun (w' : World) (L' : List HP) (h : SatL w' L') => new_ok (n := 16) (by omega) h
  rw [show ((16 : Nat) : Int) = 16 from rfl] at hnew
  have Hnew := hid hnew
  clear hC0 hC1 hC2 hB0 hB1 hZ hnew
  go_enter Try.func5, Try.ntmps5
  go_upto_block 0 with (first
    | (go_at_call 8; (with_reducible refine hk.mono ?_); rintro e w1 ⟨v, rfl, rfl, h1⟩)
    | (go_at_call 9; (with_reducible refine (Hnew.out _ _ h1).mono ?_); rintro e w2 ⟨v, rfl, d1, rfl, h2⟩))
  clear h1 hk Hnew
  go_cut [9] from 33 to 56 (fun _ wr => ∃ j : Nat, j ≤ 30 ∧ SatL wr (DskR d1 (wrS 16 At0 B0 j) :: [old w]))
  case first =>
    go_wp2_with fail
    go_loopw [9] (fun i wr => ∃ j : Nat, j ≤ l0 ∧ j ≤ 30 ∧ i = .int .i64 j ∧ SatL wr (DskR d1 (wrS 16 At0 B0 j) :: [old w])) (fun i _ => l0 - (intOf i).toNat)
    case atStart => exact ⟨0, by omega, by omega, rfl, h2⟩
    case round =>
      clear h2
      obtain ⟨j, hj, hj2, rfl, hs⟩ := hrel
      by_cases hlt : j < l0 ∧ j < 30
      · obtain ⟨hlt, h20⟩ := hlt
        obtain ⟨b, o, rfl, hx⟩ := (HgC0.out wr hs.tail).2 (by omega)
        clear hx
        have hcl := hid (fun (w' : World) (h : SatL w' [old w]) => (by
          obtain ⟨_, hc⟩ := HgC0.out w' h
          obtain ⟨b', o', e, hc⟩ := hc (by omega)
          cases e
          exact hc j hlt : w'.cell? ⟨b, o + j * 5 + 1, none⟩ = some (.int .i64 (At0 j)) ∧ w'.cell? ⟨b, o + j * 5 + 3, none⟩ = some (.int .u8 (B0 j))))
        have hd := sat_drew.2 hs
        have S0 := hcl.out _ hd.tail
        have hwj := fun (w : World) => within_ok (At0 j) (n := 16) (by omega) w
        have hbl := block_ok (HB0.out j) hd
        have hwr := fun (w' : World) (va : Option Addr) (vn vc : Nat) (L' : List HP) (h : SatL w' (DskR d1 (wrS 16 At0 B0 j) :: L')) (g : Gives L' (RdB (.slice va vn vc) (blockB (B0 j)))) => wrS_ok (n := 16) (by omega) (by omega) h g
        rw [show ((16 : Nat) : Int) = 16 from rfl] at hwj
        generalize wi (At0 j) 16 = p at *
        generalize At0 j = atj at *
        generalize blockB (B0 j) = BB at *
        generalize B0 j = bj at *
        have Hwj := hid hwj
        have Hwr := hid hwr
        clear hwj hwr hs
        go_wp2
        refine GoE.start (fun w' => w'.cell? ⟨b, o + j * 5 + 1, none⟩ = some (.int .i64 atj) ∧ w'.cell? ⟨b, o + j * 5 + 3, none⟩ = some (.int .u8 bj)) 13 14 rfl (by kernel_rfl) ?_
        refine GoE.take (i := 0) (v := ?_) rfl (by decide) (by kernel_rfl) (by kernel_rfl) (by kernel_rfl) (by kernel_rfl) (fun _ _ _ h => h) (by rfl) ?_ (by assumption) ?_
        rotate_left
        · intro w hSw; (try dsimp only at hSw); go_simp; try (with_reducible rfl)
        try simp only [Act.put, List.setIfInBounds_toArray, List.set_cons_zero, List.set_cons_succ]
        refine GoE.take (i := 1) (v := ?_) rfl (by decide) (by kernel_rfl) (by kernel_rfl) (by kernel_rfl) (by kernel_rfl) (fun _ _ _ h => h) (by rfl) ?_ (by assumption) ?_
        rotate_left
        · intro w hSw; (try dsimp only at hSw); go_simp; try (with_reducible rfl)
        try simp only [Act.put, List.setIfInBounds_toArray, List.set_cons_zero, List.set_cons_succ]
        refine GoE.take (i := 2) (v := ?_) rfl (by decide) (by kernel_rfl) (by kernel_rfl) (by kernel_rfl) (by kernel_rfl) (fun _ _ _ h => h) (by rfl) ?_ (by assumption) ?_
        rotate_left
        · intro w hSw; (try dsimp only at hSw); go_simp; try (with_reducible rfl)
        try simp only [Act.put, List.setIfInBounds_toArray, List.set_cons_zero, List.set_cons_succ]
        refine GoE.take (i := 3) (v := ?_) rfl (by decide) (by kernel_rfl) (by kernel_rfl) (by kernel_rfl) (by kernel_rfl) (fun _ _ _ h => h) (by rfl) ?_ (by assumption) ?_
        rotate_left
        · intro w hSw; (try dsimp only at hSw); go_simp; try (with_reducible rfl)
        try simp only [Act.put, List.setIfInBounds_toArray, List.set_cons_zero, List.set_cons_succ]
        refine GoE.take (i := 4) (v := ?_) rfl (by decide) (by kernel_rfl) (by kernel_rfl) (by kernel_rfl) (by kernel_rfl) (fun _ _ _ h => h) (by rfl) ?_ (by assumption) ?_
        rotate_left
        · intro w hSw; (try dsimp only at hSw); go_simp; try (with_reducible rfl)
        try simp only [Act.put, List.setIfInBounds_toArray, List.set_cons_zero, List.set_cons_succ]
        refine GoE.take (i := 5) (v := ?_) rfl (by decide) (by kernel_rfl) (by kernel_rfl) (by kernel_rfl) (by kernel_rfl) (fun _ _ _ h => h) (by rfl) ?_ (by assumption) ?_
        rotate_left
        · intro w hSw; (try dsimp only at hSw); go_simp; try (with_reducible rfl)
        try simp only [Act.put, List.setIfInBounds_toArray, List.set_cons_zero, List.set_cons_succ]
        refine GoE.take (i := 7) (v := ?_) rfl (by decide) (by kernel_rfl) (by kernel_rfl) (by kernel_rfl) (by kernel_rfl) (fun _ _ _ h => h) (by rfl) ?_ (by assumption) ?_
        rotate_left
        · intro w hSw; (try dsimp only at hSw); go_simp; try (with_reducible rfl)
        try simp only [Act.put, List.setIfInBounds_toArray, List.set_cons_zero, List.set_cons_succ]
        refine GoE.take (i := 8) (v := ?_) rfl (by decide) (by kernel_rfl) (by kernel_rfl) (by kernel_rfl) (by kernel_rfl) (fun _ _ _ h => h) (by rfl) ?_ (by assumption) ?_
        rotate_left
        · intro w hSw; (try dsimp only at hSw); go_simp; try (with_reducible rfl)
        try simp only [Act.put, List.setIfInBounds_toArray, List.set_cons_zero, List.set_cons_succ]
        refine GoE.take (i := 9) (v := ?_) rfl (by decide) (by kernel_rfl) (by kernel_rfl) (by kernel_rfl) (by kernel_rfl) (fun _ _ _ h => h) (by rfl) ?_ (by assumption) ?_
        rotate_left
        · intro w hSw; (try dsimp only at hSw); go_simp; try (with_reducible rfl)
        try simp only [Act.put, List.setIfInBounds_toArray, List.set_cons_zero, List.set_cons_succ]
        refine GoE.take (i := 10) (v := ?_) rfl (by decide) (by kernel_rfl) (by kernel_rfl) (by kernel_rfl) (by kernel_rfl) (fun _ _ _ h => h) (by rfl) ?_ (by assumption) ?_
        rotate_left
        · intro w hSw; (try dsimp only at hSw); go_simp; try (with_reducible rfl)
        try simp only [Act.put, List.setIfInBounds_toArray, List.set_cons_zero, List.set_cons_succ]
        refine GoE.take (i := 11) (v := ?_) rfl (by decide) (by kernel_rfl) (by kernel_rfl) (by kernel_rfl) (by kernel_rfl) (fun _ _ _ h => h) (by rfl) ?_ (by assumption) ?_
        rotate_left
        · intro w hSw; (try dsimp only at hSw); go_simp; try (with_reducible rfl)
        try simp only [Act.put, List.setIfInBounds_toArray, List.set_cons_zero, List.set_cons_succ]
        refine GoE.one (i := 6) rfl (by kernel_rfl) (fun K hK => ?_)
        go_simp
        go_at_call 11
        (with_reducible refine (Hwj.out _).mono ?_)
        rintro e w' ⟨v, rfl, rfl, rfl⟩
        go_wp2_with fail
        refine hK.out _ _ (fun _ => S0) ?_
        clear hK K
        try simp only [Act.put, List.setIfInBounds_toArray, List.set_cons_zero, List.set_cons_succ]
        refine GoE.one (i := 12) rfl (by kernel_rfl) (fun K hK => ?_)
        go_simp
        go_at_call 12
        (with_reducible refine hbl.mono ?_)
        rintro e w5 ⟨v, rfl, va, vc, rfl, v1, h5⟩
        have S5 := hcl.out _ h5.tail.tail
        go_wp2_with fail
        refine hK.out _ _ (fun _ => S5) ?_
        clear hK K
        try simp only [Act.put, List.setIfInBounds_toArray, List.set_cons_zero, List.set_cons_succ]
        refine GoE.one (i := 13) rfl (by kernel_rfl) (fun K hK => ?_)
        go_simp
        go_at_call 10
        (with_reducible refine (Hwr.out _ _ _ _ _ h5.swap SlB.gives).mono ?_)
        rintro e w6 ⟨v, rfl, rfl, h6⟩
        go_wp2_with fail
        refine hK.out _ _ (fun h => absurd rfl h) ?_
        clear hK K
        try simp only [Act.put, List.setIfInBounds_toArray, List.set_cons_zero, List.set_cons_succ]
        refine GoE.done (by kernel_rfl) ?_
        have h7 := SatL.tail h6.swap
        go_wp2
        go_roundw
        case rel => exact ⟨j + 1, by omega, by omega, by go_num, h7⟩
        case measure => simp [intOf]; omega
      · have hout : ((j : Int) < l0) = False ∨ ((j : Int) < l0) = True ∧ ((j : Int) < 30) = False := by
          by_cases h1 : j < l0
          · right
            exact ⟨by simp; omega, by simp; omega⟩
          · left; simp; omega
        clear hlt
        rcases hout with hout | ⟨hout, hout2⟩
        all_goals
          go_wp2_with fail
          go_meet
          exact ⟨j, by omega, hs⟩
  case rest =>
    obtain ⟨j0, hj0, hs⟩ := hcut
    clear h2
    have hP5 : ∀ i, i < 16 → ((wrS 16 At0 B0 j0).cur i).length = 512 := by
      intro i hi
      obtain ⟨_, _, _, _, fl, ok, _⟩ := DskR.form hs
      exact cur_len ok (by rw [wrS_n]; exact hi)
    have hfl := flush_ok hs
    have hsn : (wrS 16 At0 B0 j0).flushed.n = 16 := wrS_n _ _ _ _
    have hcu : ∀ i, (wrS 16 At0 B0 j0).flushed.cur i = (wrS 16 At0 B0 j0).flushed.P i := fun i => rfl
    have hV0 : ∀ i, ((wrS 16 At0 B0 j0).flushed.V i).length ≤ 0 := fun i => Nat.le_refl 0
    have hVn : ∀ i, (wrS 16 At0 B0 j0).flushed.V i = [] := fun i => rfl
    have hPl : ∀ i, i < 16 → ((wrS 16 At0 B0 j0).flushed.P i).length = 512 := hP5
    have hcc := crash_clean (wrS 16 At0 B0 j0) l2 Z
    have hcd := flushed_dirty (wrS 16 At0 B0 j0)
    generalize (wrS 16 At0 B0 j0).flushed = s0 at *
    have hWl : (s0.read 0 16).length = 8192 := by
      have : ∀ n, n ≤ 16 → (s0.read 0 n).length = 512 * n := by
        intro n
        induction n with
        | zero => intro _; rfl
        | succ n ih => intro hn; rw [read_snoc, List.length_append, ih (by omega), hcu, hPl _ (by omega)]; omega
      exact this 16 (Nat.le_refl _)
    have hrow := fun (i : Nat) (hi : i < 16) => (rowAt_read (s := s0) (p := 0) hi (fun j hj => by rw [hcu]; exact hPl _ (by omega))).trans ((congrArg s0.cur (Nat.zero_add i)).trans (hcu i))
    have hrd := fun (w' : World) (L' : List HP) (h : SatL w' (DskR d1 s0 :: L')) => read_ok (p := 0) (n := 16) (by omega) (by omega) (fun i => Nat.le_trans (hV0 i) (by omega)) h
    have hcr := fun (w' : World) (L' : List HP) (h : SatL w' (DskR d1 s0 :: L')) (g : Gives L' (fun w' => IsRow w' 1 a2 l2 (fun i => [.int .i64 (Z i)]))) => crash_ok (c := c2) HZ.out (fun i => Nat.le_trans (hV0 i) (by omega)) h g
    rw [hcd, hcc] at hcr
    rw [show ((16 : Nat) : Int) = 16 from rfl, show ((0 : Nat) : Int) = 0 from rfl] at hrd
    generalize s0.read 0 16 = W at *
    have Hrd := hid hrd
    have Hcr := hid hcr
    have Hrow := hid hrow
    have HWl := hid hWl
    have HPl := hid hPl
    have HV0 := hid hV0
    have HVn := hid hVn
    have Hsn := hid hsn
    clear hrd hcr hrow hWl hPl hV0 hVn hsn hcu hcc hcd hP5
    go_upto_block 2 with (first
      | (go_at_call 16; (with_reducible refine hfl.mono ?_); rintro e w3 ⟨v, rfl, h3⟩)
      | (go_at_call 13; (with_reducible refine (Hrd.out _ _ h3).mono ?_); rintro e w4 ⟨v, rfl, rv, rfl, h4⟩; obtain ⟨ra, rc, hrv, r1, r2⟩ := SlB.valn h4; rw [HWl.out] at hrv r1; subst hrv)
      | (go_at_call 17; (with_reducible refine (Hcr.out _ _ h4.swap Hg2.out.next).mono ?_); rintro e w5 ⟨v, rfl, rfl, h5⟩)
      | (go_at_call 13; (with_reducible refine (Hrd.out _ _ h5).mono ?_); rintro e w6 ⟨v, rfl, nv, rfl, h6⟩; have kc1 := RdB.conv (SlB.rd h6); have kc2 := RdB.conv (SlB.rd (h6.pull 2 : SatL w6 (SlB _ _ W :: _))))
      | (refine wpList_make_sl rfl (.const (.int .i64 16)) (.const (.int .i64 16)) rfl elem_seen 16 rfl rfl h6 (by omega) (by omega) ?_; intro w7 h7; have h8 := SeenF.mk h7))
    have h9 := SatL.tail (h8.bring [1, 0, 3, 2])
    generalize w6.heap.size = sb at *
    clear h3 h4 h5 h6 h7 h8 kc1 kc2 hfl hs
    go_cut [15] from 84 to 99 (fun _ wr => SatL wr (SeenF (.slice (some ⟨sb, 0, none⟩) 16 16) (seenS s0) :: DskR d1 s0 :: [old w]))
    case first =>
      obtain ⟨rb, ro, rfl⟩ := Sl.addr (SatL.pull h9 1 : SatL w7 (SlB _ _ W :: _)) (by omega)
      go_wp2_with fail
      go_loopw [15] (fun v wr => ∃ i : Nat, i ≤ 16 ∧ v = .int .i64 i ∧ SatL wr (SeenF (.slice (some ⟨sb, 0, none⟩) 16 16) (fun j => if j < i then seenS s0 j else []) :: SlB 5 (.slice (some ⟨rb, ro, none⟩) 8192 rc) W :: DskR d1 s0 :: [old w])) (fun v _ => 16 - (intOf v).toNat)
      case atStart => exact ⟨0, by omega, rfl, SeenF.congr h9 (fun i _ => by rw [if_neg (by omega)])⟩
      case round =>
        clear h9
        obtain ⟨i, hi, rfl, hs⟩ := hrel
        by_cases hlt : i < 16
        · obtain ⟨u, Rr, hA, hcell, hback, hput⟩ := seen_open hs hlt
          rw [if_neg (by omega)] at hA
          simp only [Nat.zero_add] at hcell hput
          have hcv := RdB.conv (plat_row (n := 16) HWl.out hlt (SlB.rd (hs.pull 1 : SatL wr (SlB _ _ W :: _))))
          rw [Hrow.out i hlt] at hcv
          have h10 := hA.alloc (.cells #[strV (s0.P i)] 9)
          obtain ⟨cs, fs⟩ := hcell _ _ (h10.tail.tail)
          have e8 : IntKind.i64.wrap (512 * (i : Int)) = ((512 * i : Nat) : Int) := by rw [show 512 * (i : Int) = ((512 * i : Nat) : Int) by omega]; exact IntWalk.i64_in _ (by omega)
          have e9 : IntKind.i64.wrap (((512 * i : Nat) : Int) + 512) = ((512 * i + 512 : Nat) : Int) := by rw [show ((512 * i : Nat) : Int) + 512 = ((512 * i + 512 : Nat) : Int) by omega]; exact IntWalk.i64_in _ (by omega)
          have g1 : 512 * i + 512 ≤ 8192 := by omega
          obtain ⟨x, hx⟩ : ∃ x, x = 512 * i := ⟨_, rfl⟩
          rw [← hx] at e8 e9 g1 hcv
          have g3 : (0 : Int) ≤ (x : Int) + 512 := by omega
          have g4 : (x : Int) + 512 ≤ (rc : Int) := by omega
          have g5 : (x : Int) ≤ (x : Int) + 512 := by omega
          have g6 : ((x : Int) + 512).toNat = x + 512 := by omega
          have g7 : x + 512 - x = 512 := by omega
          have g8 : ¬ rc = x := by omega
          have Hput := hid hput
          have hiz : (i : Int) < 16 := by omega
          have hstr : strV (s0.P i) = .string ⟨(s0.P i).toArray⟩ := rfl
          have Hx := hid hx
          have Hhs := hid hs
          have hfn : ∀ j, j < 16 → (if j = i then [s0.P i] else if j < i then seenS s0 j else []) = if j < i + 1 then seenS s0 j else [] := by
            intro j hj
            by_cases h1 : j = i
            · subst h1
              rw [if_pos rfl, if_pos (by omega)]
              unfold seenS
              rw [HVn.out]
            · rw [if_neg h1]
              by_cases h2 : j < i
              · rw [if_pos h2, if_pos (by omega)]
              · rw [if_neg h2, if_neg (by omega)]
          have Hfn := hid hfn
          rw [hstr] at cs fs h10
          clear hx hback hput hcell hs hA hfn hstr
          go_wp2
          have h11 := Sl.one h10
          have h12 := Hput.out _ _ [s0.P i] _ (SatL.tail (SatL.bring h11 [1, 0, 2]))
          go_roundw
          case rel => exact ⟨i + 1, by omega, by go_num, SeenF.congr h12 Hfn.out⟩
          case measure => simp [intOf]; omega
        · have hi16 : i = 16 := by omega
          have hiz : ¬ (i : Int) < 16 := by omega
          have h10 : SatL wr (SeenF (.slice (some ⟨sb, 0, none⟩) 16 16) (seenS s0) :: _) := SeenF.congr hs (fun j hj => by rw [if_pos (by omega)])
          clear hs hi16
          go_wp2_with fail
          go_meet
          exact SatL.tail h10.swap
    case rest =>
      have hs0 := hcut
      clear h9 hcut
      go_upto_block 4 with fail
      go_cut [16, 17] from 100 to 140 (fun _ _ wr => ∃ k : Nat, k ≤ 30 ∧ SatL wr (SeenF (.slice (some ⟨sb, 0, none⟩) 16 16) (seenS (wrK s0 At1 B1 k)) :: DskR d1 (wrK s0 At1 B1 k) :: [old w]))
      case first =>
        go_wp2_with fail
        go_loopw [16] (fun i wr => ∃ j : Nat, j ≤ l1 ∧ j ≤ 30 ∧ i = .int .i64 j ∧ SatL wr (SeenF (.slice (some ⟨sb, 0, none⟩) 16 16) (seenS (wrK s0 At1 B1 j)) :: DskR d1 (wrK s0 At1 B1 j) :: [old w])) (fun i _ => l1 - (intOf i).toNat)
        case atStart => exact ⟨0, by omega, by omega, rfl, hs0⟩
        case round =>
          clear hs0
          obtain ⟨j, hj, hj2, rfl, hs⟩ := hrel
          by_cases hlt : j < l1 ∧ j < 30
          · obtain ⟨hlt, h20⟩ := hlt
            obtain ⟨b, o, rfl, hx⟩ := (HgC1.out wr hs.tail.tail).2 (by omega)
            clear hx
            have hcl := hid (fun (w' : World) (h : SatL w' [old w]) => (by
              obtain ⟨_, hc⟩ := HgC1.out w' h
              obtain ⟨b', o', e, hc⟩ := hc (by omega)
              cases e
              exact hc j hlt : w'.cell? ⟨b, o + j * 5 + 1, none⟩ = some (.int .i64 (At1 j)) ∧ w'.cell? ⟨b, o + j * 5 + 3, none⟩ = some (.int .u8 (B1 j))))
            obtain ⟨f1, f3⟩ := hcl.out _ hs.tail.tail
            have hp16 := wi_lt (At1 j) (show 0 < 16 by omega)
            have hwj := fun (w : World) => within_ok (At1 j) (n := 16) (by omega) w
            have hbl := fun (w' : World) (L' : List HP) (h : SatL w' L') => block_ok (HB1.out j) h
            have hlk : ∀ i, ((wrK s0 At1 B1 j).V i).length ≤ j := wrK_le HV0.out At1 B1 j
            have hwr := fun (w' : World) (va : Option Addr) (vn vc : Nat) (L' : List HP) (h : SatL w' (DskR d1 (wrK s0 At1 B1 j) :: L')) (g : Gives L' (RdB (.slice va vn vc) (blockB (B1 j)))) => write1_ok (p := wi (At1 j) 16) (blkN_len _ _) (by rw [wrK_n, Hsn.out]; exact hp16) (fun i => Nat.le_trans (hlk i) (by omega)) h g
            have hnext : wrK s0 At1 B1 (j + 1) = (wrK s0 At1 B1 j).put (wi (At1 j) 16) (blockB (B1 j)) := rfl
            have hsl : (seenS (wrK s0 At1 B1 j) (wi (At1 j) 16)).length ≤ 100 := by unfold seenS; rw [List.length_cons]; have := hlk (wi (At1 j) 16); omega
            have hsp := seenS_put (wrK s0 At1 B1 j) (wi (At1 j) 16) (blockB (B1 j))
            rw [← hnext] at hwr hsp
            rw [show ((16 : Nat) : Int) = 16 from rfl] at hwj
            obtain ⟨s2, hs2⟩ : ∃ s2, wrK s0 At1 B1 (j + 1) = s2 := ⟨_, rfl⟩
            rw [hs2] at hwr hsp
            have Hs2 := hid hs2
            clear hs2 hnext
            generalize wrK s0 At1 B1 j = s1 at *
            generalize wi (At1 j) 16 = p at *
            generalize At1 j = atj at *
            generalize blockB (B1 j) = BB at *
            generalize B1 j = bj at *
            have Hwj := hid hwj
            have Hwr := hid hwr
            have Hbl := hid hbl
            have Hsp := hid hsp
            have hs1 := hs
            have hlz : (j : Int) < (l1 : Int) := by omega
            have h30 : (j : Int) < 30 := by omega
            clear hwj hwr hbl hsp hlk hs
            go_wp2_with (first
              | (go_at_call 11; (with_reducible refine (Hwj.out _).mono ?_); rintro e w' ⟨v, rfl, rfl, rfl⟩)
              | (go_at_call 12; (with_reducible refine (Hbl.out _ _ hs1).mono ?_); rintro e w5 ⟨v, rfl, va, vc, rfl, v1, h5⟩)
              | (go_at_call 10; (with_reducible refine (Hwr.out _ _ _ _ _ (h5.bring [2, 0, 1]) SlB.gives).mono ?_); rintro e w6 ⟨v, rfl, rfl, h6⟩))
            have hd := sat_drew.2 (SatL.tail (h6.bring [1, 2, 0]))
            clear hs1 h5 h6 f1 f3
            obtain ⟨u, Rr, hA, hcell, _, hput⟩ := seen_open hd hp16
            simp only [Nat.zero_add] at hcell hput
            obtain ⟨ua, uc, rfl, u1, u2⟩ := Sl.valn hA (m := (seenS s1 p).length) (by rw [List.length_map])
            have hml : ((seenS s1 p).map strV).length = (seenS s1 p).length := List.length_map _
            have hmb : (((seenS s1 p).map strV).length + 1) * 16 ≤ 140737488355328 := by rw [hml]; omega
            have hma : (seenS s1 p ++ [BB]).map strV = (seenS s1 p).map strV ++ [.string ⟨BB.toArray⟩] := by rw [List.map_append]; rfl
            obtain ⟨nu, hnu⟩ : ∃ nu, nu = (seenS s1 p).length := ⟨_, rfl⟩
            rw [← hnu] at u1 hA hcell
            have hbk := Hbl.out _ _ hA
            have hpz : (p : Int) < 16 := by omega
            have S0 := And.intro (hcell _ _ hA.tail).1 (hcl.out _ hA.tail.tail.tail).2
            have Hma := hid hma
            have Hcell := hid hcell
            have Hput := hid hput
            generalize (seenS s1 p).map strV = ms at *
            clear hd hcell hput hml hma hnu hsl
            refine GoE.start (fun w' => w'.cell? ⟨sb, p, none⟩ = some (.slice ua nu uc) ∧ w'.cell? ⟨b, o + j * 5 + 3, none⟩ = some (.int .u8 bj)) 16 17 rfl (by kernel_rfl) ?_
            refine GoE.take (i := 0) (v := ?_) rfl (by decide) (by kernel_rfl) (by kernel_rfl) (by kernel_rfl) (by kernel_rfl) (fun _ _ _ h => h) (by rfl) ?_ (by assumption) ?_
            rotate_left
            · intro w hSw; (try dsimp only at hSw); go_simp; try (with_reducible rfl)
            try simp only [Act.put, List.setIfInBounds_toArray, List.set_cons_zero, List.set_cons_succ]
            refine GoE.take (i := 1) (v := ?_) rfl (by decide) (by kernel_rfl) (by kernel_rfl) (by kernel_rfl) (by kernel_rfl) (fun _ _ _ h => h) (by rfl) ?_ (by assumption) ?_
            rotate_left
            · intro w hSw; (try dsimp only at hSw); go_simp; try (with_reducible rfl)
            try simp only [Act.put, List.setIfInBounds_toArray, List.set_cons_zero, List.set_cons_succ]
            refine GoE.take (i := 2) (v := ?_) rfl (by decide) (by kernel_rfl) (by kernel_rfl) (by kernel_rfl) (by kernel_rfl) (fun _ _ _ h => h) (by rfl) ?_ (by assumption) ?_
            rotate_left
            · intro w hSw; (try dsimp only at hSw); go_simp; try (with_reducible rfl)
            try simp only [Act.put, List.setIfInBounds_toArray, List.set_cons_zero, List.set_cons_succ]
            refine GoE.take (i := 3) (v := ?_) rfl (by decide) (by kernel_rfl) (by kernel_rfl) (by kernel_rfl) (by kernel_rfl) (fun _ _ _ h => h) (by rfl) ?_ (by assumption) ?_
            rotate_left
            · intro w hSw; (try dsimp only at hSw); go_simp; try (with_reducible rfl)
            try simp only [Act.put, List.setIfInBounds_toArray, List.set_cons_zero, List.set_cons_succ]
            refine GoE.take (i := 4) (v := ?_) rfl (by decide) (by kernel_rfl) (by kernel_rfl) (by kernel_rfl) (by kernel_rfl) (fun _ _ _ h => h) (by rfl) ?_ (by assumption) ?_
            rotate_left
            · intro w hSw; (try dsimp only at hSw); go_simp; try (with_reducible rfl)
            try simp only [Act.put, List.setIfInBounds_toArray, List.set_cons_zero, List.set_cons_succ]
            refine GoE.take (i := 5) (v := ?_) rfl (by decide) (by kernel_rfl) (by kernel_rfl) (by kernel_rfl) (by kernel_rfl) (fun _ _ _ h => h) (by rfl) ?_ (by assumption) ?_
            rotate_left
            · intro w hSw; (try dsimp only at hSw); go_simp; try (with_reducible rfl)
            try simp only [Act.put, List.setIfInBounds_toArray, List.set_cons_zero, List.set_cons_succ]
            refine GoE.take (i := 6) (v := ?_) rfl (by decide) (by kernel_rfl) (by kernel_rfl) (by kernel_rfl) (by kernel_rfl) (fun _ _ _ h => h) (by rfl) ?_ (by assumption) ?_
            rotate_left
            · intro w hSw; (try dsimp only at hSw); go_simp; try (with_reducible rfl)
            try simp only [Act.put, List.setIfInBounds_toArray, List.set_cons_zero, List.set_cons_succ]
            refine GoE.take (i := 7) (v := ?_) rfl (by decide) (by kernel_rfl) (by kernel_rfl) (by kernel_rfl) (by kernel_rfl) (fun _ _ _ h => h) (by rfl) ?_ (by assumption) ?_
            rotate_left
            · intro w hSw; (try dsimp only at hSw); go_simp; try (with_reducible rfl)
            try simp only [Act.put, List.setIfInBounds_toArray, List.set_cons_zero, List.set_cons_succ]
            refine GoE.take (i := 8) (v := ?_) rfl (by decide) (by kernel_rfl) (by kernel_rfl) (by kernel_rfl) (by kernel_rfl) (fun _ _ _ h => h) (by rfl) ?_ (by assumption) ?_
            rotate_left
            · intro w hSw; (try dsimp only at hSw); go_simp; try (with_reducible rfl)
            try simp only [Act.put, List.setIfInBounds_toArray, List.set_cons_zero, List.set_cons_succ]
            refine GoE.take (i := 9) (v := ?_) rfl (by decide) (by kernel_rfl) (by kernel_rfl) (by kernel_rfl) (by kernel_rfl) (fun _ _ _ h => h) (by rfl) ?_ (by assumption) ?_
            rotate_left
            · intro w hSw; (try dsimp only at hSw); go_simp; try (with_reducible rfl)
            try simp only [Act.put, List.setIfInBounds_toArray, List.set_cons_zero, List.set_cons_succ]
            refine GoE.take (i := 10) (v := ?_) rfl (by decide) (by kernel_rfl) (by kernel_rfl) (by kernel_rfl) (by kernel_rfl) (fun _ _ _ h => h) (by rfl) ?_ (by assumption) ?_
            rotate_left
            · intro w hSw; (try dsimp only at hSw); go_simp; try (with_reducible rfl)
            try simp only [Act.put, List.setIfInBounds_toArray, List.set_cons_zero, List.set_cons_succ]
            refine GoE.one (i := 11) rfl (by kernel_rfl) (fun K hK => ?_)
            go_simp
            go_at_call 12
            (with_reducible refine hbk.mono ?_)
            rintro e w8 ⟨v8, rfl, xa, xc, rfl, x1, h8⟩
            have S8 := And.intro (Hcell.out _ _ h8.tail.tail).1 (hcl.out _ h8.tail.tail.tail.tail).2
            have S8c := RdB.conv (SlB.rd h8)
            have h9 := h8.alloc (.cells #[.string ⟨BB.toArray⟩] 9)
            have S9 := And.intro (RdB.conv (SlB.rd (h9.pull 1 : SatL _ (SlB _ _ BB :: _)))) (And.intro (Hcell.out _ _ h9.tail.tail.tail).1 (hcl.out _ h9.tail.tail.tail.tail.tail).2)
            go_wp2_with fail
            refine hK.out _ _ (fun _ => S8) ?_
            clear hK K h9
            try simp only [Act.put, List.setIfInBounds_toArray, List.set_cons_zero, List.set_cons_succ]
            refine GoE.more (fun w' => (convert 33 9 (.slice xa 512 xc)).run Try.prog w' = .ok (.string ⟨BB.toArray⟩) w' ∧ w'.cell? ⟨sb, p, none⟩ = some (.slice ua nu uc) ∧ w'.cell? ⟨b, o + j * 5 + 3, none⟩ = some (.int .u8 bj)) (fun w h => h.2) ?_
            have S8d := And.intro S8c S8
            refine GoE.take (i := 12) (v := ?_) rfl (by decide) (by kernel_rfl) (by kernel_rfl) (by kernel_rfl) (by kernel_rfl) (fun _ _ _ h => h) (by rfl) ?_ (by assumption) ?_
            rotate_left
            · intro w hSw; (try dsimp only at hSw); go_simp; try (with_reducible rfl)
            try simp only [Act.put, List.setIfInBounds_toArray, List.set_cons_zero, List.set_cons_succ]
            refine GoE.one (i := 13) rfl (by kernel_rfl) (fun K hK => ?_)
            go_simp
            refine hK.out _ _ (fun _ => S9) ?_
            clear hK K
            try simp only [Act.put, List.setIfInBounds_toArray, List.set_cons_zero, List.set_cons_succ]
            refine GoE.one (i := 14) rfl (by kernel_rfl) (fun K hK => ?_)
            refine step_push1_sl (w := w8) (nb := w8.heap.size) rfl rfl (.tmp 130) (.tmp 138) rfl elem_str (by omega) rfl h8.swap rfl rfl hmb ?_
            intro v10 w10 h10
            obtain ⟨za, zn, zc, rfl⟩ := Sl.val h10
            have S10 := And.intro (RdB.conv (SlB.rd (h10.pull 1 : SatL _ (SlB _ _ BB :: _)))) (And.intro (Hcell.out _ _ h10.tail.tail).1 (hcl.out _ h10.tail.tail.tail.tail).2)
            have fs10 := (Hcell.out _ _ h10.tail.tail).2
            have cs10 := (Hcell.out _ _ h10.tail.tail).1
            refine hK.out _ _ (fun _ => S10) ?_
            clear hK K
            try simp only [Act.put, List.setIfInBounds_toArray, List.set_cons_zero, List.set_cons_succ]
            refine GoE.take (i := 15) (v := ?_) rfl (by decide) (by kernel_rfl) (by kernel_rfl) (by kernel_rfl) (by kernel_rfl) (fun _ _ _ h => h) (by rfl) ?_ (by assumption) ?_
            rotate_left
            · intro w hSw; (try dsimp only at hSw); go_simp; try (with_reducible rfl)
            try simp only [Act.put, List.setIfInBounds_toArray, List.set_cons_zero, List.set_cons_succ]
            refine GoE.one (i := 16) rfl (by kernel_rfl) (fun K hK => ?_)
            go_simp
            refine hK.out _ _ (fun h => absurd rfl h) ?_
            clear hK K
            try simp only [Act.put, List.setIfInBounds_toArray, List.set_cons_zero, List.set_cons_succ]
            refine GoE.done (by kernel_rfl) ?_
            rw [← Hma.out] at h10
            have h12 := Hput.out _ _ _ _ (SatL.tail (h10.bring [1, 0, 2]))
            rw [Hsp.out] at h12
            go_wp2
            go_roundw
            case rel => exact ⟨j + 1, by omega, by omega, by go_num, by rw [Hs2.out]; exact h12⟩
            case measure => simp [intOf]; omega
          · have hout : ((j : Int) < l1) = False ∨ ((j : Int) < l1) = True ∧ ((j : Int) < 30) = False := by
              by_cases h1 : j < l1
              · right
                exact ⟨by simp; omega, by simp; omega⟩
              · left; simp; omega
            clear hlt
            rcases hout with hout | ⟨hout, hout2⟩
            all_goals
              go_wp2_with fail
              go_meet
              exact ⟨j, by omega, hs⟩
      case rest =>
        obtain ⟨k0, hk0, hs⟩ := hcut
        clear hs0
        have hlk : ∀ i, ((wrK s0 At1 B1 k0).V i).length ≤ k0 := wrK_le HV0.out At1 B1 k0
        have hcr2 := crash_ok (c := c2) HZ.out (fun i => Nat.le_trans (hlk i) (by omega)) hs.swap Hg2.out.next
        have hmem : ∀ i, ((wrK s0 At1 B1 k0).crash l2 Z).cur i ∈ seenS (wrK s0 At1 B1 k0) i := fun i => cp_seen _ _ _ _ i
        have hc5 : ∀ i, i < 16 → (((wrK s0 At1 B1 k0).crash l2 Z).cur i).length = 512 := by
          intro i hi
          obtain ⟨_, _, _, _, fl, ok, _⟩ := DskR.form hs.swap
          rcases List.mem_cons.1 (hmem i) with h | h
          · rw [h, wrK_P]; exact HPl.out i hi
          · exact ok.row i _ h
        have hn16 : ((wrK s0 At1 B1 k0).crash l2 Z).n = 16 := (wrK_n s0 At1 B1 k0).trans Hsn.out
        have hcd := crash_dirty (wrK s0 At1 B1 k0) l2 Z
        have hcV : ∀ i, (((wrK s0 At1 B1 k0).crash l2 Z).V i).length ≤ 0 := fun i => Nat.le_refl 0
        generalize (wrK s0 At1 B1 k0).crash l2 Z = sc at *
        generalize wrK s0 At1 B1 k0 = s1 at *
        have hWl : (sc.read 0 16).length = 8192 := by
          have : ∀ n, n ≤ 16 → (sc.read 0 n).length = 512 * n := by
            intro n
            induction n with
            | zero => intro _; rfl
            | succ n ih => intro hn; rw [read_snoc, List.length_append, ih (by omega), hc5 _ (by omega)]; omega
          exact this 16 (Nat.le_refl _)
        have hrow := fun (i : Nat) (hi : i < 16) => (rowAt_read (s := sc) (p := 0) hi (fun j hj => hc5 _ (by omega))).trans (congrArg sc.cur (Nat.zero_add i))
        have hrd := fun (w' : World) (L' : List HP) (h : SatL w' (DskR d1 sc :: L')) => read_ok (p := 0) (n := 16) (by omega) (by omega) (fun i => Nat.le_trans (hcV i) (by omega)) h
        have hdi := fun (w' : World) (L' : List HP) (h : SatL w' (DskR d1 sc :: L')) => dirty_ok h
        rw [hcd] at hdi
        rw [show ((16 : Nat) : Int) = 16 from rfl, show ((0 : Nat) : Int) = 0 from rfl] at hrd
        generalize sc.read 0 16 = R2 at *
        have Hrd2 := hid hrd
        have Hdi := hid hdi
        have Hrow2 := hid hrow
        have HR2 := hid hWl
        have Hmem := hid hmem
        clear hrd hdi hrow hWl hmem hc5 hn16 hcd hcV hlk
        generalize seenS s1 = F at *
        go_upto_block 6 with (first
          | (go_at_call 17; (with_reducible refine hcr2.mono ?_); rintro e w8 ⟨v, rfl, rfl, h8⟩)
          | (go_at_call 13; (with_reducible refine (Hrd2.out _ _ h8).mono ?_); rintro e w9 ⟨v, rfl, nv, rfl, h9⟩; obtain ⟨qa, qc, hqv, r3, r4⟩ := SlB.valn h9; rw [HR2.out] at hqv r3; subst hqv)
          | (go_at_call 14; (with_reducible refine (Hdi.out _ _ h9.swap).mono ?_); rintro e w10 ⟨v, rfl, h10⟩; obtain ⟨da, dc, rfl, _, _⟩ := Sl.valn h10 (m := 0) rfl))
        have h11 := SatL.tail (SatL.tail (h10.bring [0, 1, 3, 2]))
        obtain ⟨qb, qo, rfl⟩ := Sl.addr (SatL.pull h11 1 : SatL w10 (SlB _ _ R2 :: _)) (by omega)
        clear h8 h9 h10 hs hcr2
        go_wp2_with fail
        go_loopw [18] (fun v wr => ∃ i : Nat, i ≤ 16 ∧ v = .int .i64 i ∧ SatL wr (SeenF (.slice (some ⟨sb, 0, none⟩) 16 16) F :: SlB 5 (.slice (some ⟨qb, qo, none⟩) 8192 qc) R2 :: [old w])) (fun v _ => 16 - (intOf v).toNat)
        case atStart => exact ⟨0, by omega, rfl, h11⟩
        case round =>
          clear h11
          obtain ⟨i, hi, rfl, hs⟩ := hrel
          by_cases hlt : i < 16
          · obtain ⟨row, hrw⟩ : ∃ row, sc.cur i = row := ⟨_, rfl⟩
            have hmi := Hmem.out i
            have hri := Hrow2.out i hlt
            rw [hrw] at hmi hri
            have Hmi := hid hmi
            have Hri := hid hri
            have hs2 := hs
            have hiz : (i : Int) < 16 := by omega
            clear hrw hmi hri hs
            go_wp2
            go_loopw [19, 20] (fun t v wr => ∃ k : Nat, k ≤ (F i).length ∧ t = .bool (((F i).take k).any (· == row)) ∧ v = .int .i64 k ∧ SatL wr (SeenF (.slice (some ⟨sb, 0, none⟩) 16 16) F :: SlB 5 (.slice (some ⟨qb, qo, none⟩) 8192 qc) R2 :: [old w])) (fun _ v _ => (F i).length - (intOf v).toNat)
            case atStart => exact ⟨0, by omega, rfl, rfl, hs2⟩
            case round =>
              clear hs2
              obtain ⟨k, hk, rfl, rfl, hs⟩ := hrel
              obtain ⟨u, Rr, hA, hcell, _, _⟩ := seen_open hs hlt
              simp only [Nat.zero_add] at hcell
              obtain ⟨ua, uc, rfl, u1, u2⟩ := Sl.valn hA (m := (F i).length) (by rw [List.length_map])
              have cu := (hcell _ _ hA.tail).1
              by_cases hkl : k < (F i).length
              · obtain ⟨fk, hfk⟩ : ∃ fk, (F i)[k]? = some fk := ⟨_, List.getElem?_eq_getElem hkl⟩
                obtain ⟨ub, uo, rfl⟩ := Sl.addr hA (by omega)
                have cf := Sl.cell hA (i := k) (x := .string ⟨fk.toArray⟩) (by rw [List.getElem?_map, hfk]; rfl)
                have hany : ((F i).take (k + 1)).any (· == row) = (((F i).take k).any (· == row) || fk == row) := by
                  rw [List.take_add_one, hfk, List.any_append]; simp
                have hcv := RdB.conv (plat_row (n := 16) HR2.out hlt (SlB.rd (hs.pull 1 : SatL wr (SlB _ _ R2 :: _))))
                rw [Hri.out] at hcv
                have hd := sat_drew.2 hs
                have hkz : (k : Int) < ((F i).length : Int) := by omega
                have Hany := hid hany
                clear hany
                cases hb : ((F i).take k).any (· == row) with
                | true =>
                  have Hb := hid hb
                  have HT := hid (show Value.bool true = Value.bool (((F i).take (k + 1)).any (· == row)) by rw [Hany.out, Hb.out, Bool.true_or])
                  have S0 := trivial
                  clear hb hcv cf hs hA hcell hfk
                  go_wp2
                  refine GoE.start (fun _ => True) 19 20 rfl (by kernel_rfl) ?_
                  refine GoE.take (i := 0) (v := ?_) rfl (by decide) (by kernel_rfl) (by kernel_rfl) (by kernel_rfl) (by kernel_rfl) (fun _ _ _ h => h) (by rfl) ?_ (by assumption) ?_
                  rotate_left
                  · intro w hSw; (try dsimp only at hSw); go_simp; try (with_reducible rfl)
                  try simp only [Act.put, List.setIfInBounds_toArray, List.set_cons_zero, List.set_cons_succ]
                  refine GoE.take (i := 1) (v := ?_) rfl (by decide) (by kernel_rfl) (by kernel_rfl) (by kernel_rfl) (by kernel_rfl) (fun _ _ _ h => h) (by rfl) ?_ (by assumption) ?_
                  rotate_left
                  · intro w hSw; (try dsimp only at hSw); go_simp; try (with_reducible rfl)
                  try simp only [Act.put, List.setIfInBounds_toArray, List.set_cons_zero, List.set_cons_succ]
                  refine GoE.skip (i := 2) rfl (by decide) (by kernel_rfl) (by kernel_rfl) (by kernel_rfl) (by kernel_rfl) (fun _ _ _ h => h) (by rfl) (by assumption) ?_
                  try simp only [Act.put, List.setIfInBounds_toArray, List.set_cons_zero, List.set_cons_succ]
                  refine GoE.skip (i := 3) rfl (by decide) (by kernel_rfl) (by kernel_rfl) (by kernel_rfl) (by kernel_rfl) (fun _ _ _ h => h) (by rfl) (by assumption) ?_
                  try simp only [Act.put, List.setIfInBounds_toArray, List.set_cons_zero, List.set_cons_succ]
                  refine GoE.skip (i := 4) rfl (by decide) (by kernel_rfl) (by kernel_rfl) (by kernel_rfl) (by kernel_rfl) (fun _ _ _ h => h) (by rfl) (by assumption) ?_
                  try simp only [Act.put, List.setIfInBounds_toArray, List.set_cons_zero, List.set_cons_succ]
                  refine GoE.skip (i := 5) rfl (by decide) (by kernel_rfl) (by kernel_rfl) (by kernel_rfl) (by kernel_rfl) (fun _ _ _ h => h) (by rfl) (by assumption) ?_
                  try simp only [Act.put, List.setIfInBounds_toArray, List.set_cons_zero, List.set_cons_succ]
                  refine GoE.skip (i := 6) rfl (by decide) (by kernel_rfl) (by kernel_rfl) (by kernel_rfl) (by kernel_rfl) (fun _ _ _ h => h) (by rfl) (by assumption) ?_
                  try simp only [Act.put, List.setIfInBounds_toArray, List.set_cons_zero, List.set_cons_succ]
                  refine GoE.skip (i := 7) rfl (by decide) (by kernel_rfl) (by kernel_rfl) (by kernel_rfl) (by kernel_rfl) (fun _ _ _ h => h) (by rfl) (by assumption) ?_
                  try simp only [Act.put, List.setIfInBounds_toArray, List.set_cons_zero, List.set_cons_succ]
                  refine GoE.skip (i := 8) rfl (by decide) (by kernel_rfl) (by kernel_rfl) (by kernel_rfl) (by kernel_rfl) (fun _ _ _ h => h) (by rfl) (by assumption) ?_
                  try simp only [Act.put, List.setIfInBounds_toArray, List.set_cons_zero, List.set_cons_succ]
                  refine GoE.skip (i := 9) rfl (by decide) (by kernel_rfl) (by kernel_rfl) (by kernel_rfl) (by kernel_rfl) (fun _ _ _ h => h) (by rfl) (by assumption) ?_
                  try simp only [Act.put, List.setIfInBounds_toArray, List.set_cons_zero, List.set_cons_succ]
                  refine GoE.skip (i := 10) rfl (by decide) (by kernel_rfl) (by kernel_rfl) (by kernel_rfl) (by kernel_rfl) (fun _ _ _ h => h) (by rfl) (by assumption) ?_
                  try simp only [Act.put, List.setIfInBounds_toArray, List.set_cons_zero, List.set_cons_succ]
                  refine GoE.skip (i := 11) rfl (by decide) (by kernel_rfl) (by kernel_rfl) (by kernel_rfl) (by kernel_rfl) (fun _ _ _ h => h) (by rfl) (by assumption) ?_
                  try simp only [Act.put, List.setIfInBounds_toArray, List.set_cons_zero, List.set_cons_succ]
                  refine GoE.skip (i := 12) rfl (by decide) (by kernel_rfl) (by kernel_rfl) (by kernel_rfl) (by kernel_rfl) (fun _ _ _ h => h) (by rfl) (by assumption) ?_
                  try simp only [Act.put, List.setIfInBounds_toArray, List.set_cons_zero, List.set_cons_succ]
                  refine GoE.skip (i := 13) rfl (by decide) (by kernel_rfl) (by kernel_rfl) (by kernel_rfl) (by kernel_rfl) (fun _ _ _ h => h) (by rfl) (by assumption) ?_
                  try simp only [Act.put, List.setIfInBounds_toArray, List.set_cons_zero, List.set_cons_succ]
                  refine GoE.skip (i := 14) rfl (by decide) (by kernel_rfl) (by kernel_rfl) (by kernel_rfl) (by kernel_rfl) (fun _ _ _ h => h) (by rfl) (by assumption) ?_
                  try simp only [Act.put, List.setIfInBounds_toArray, List.set_cons_zero, List.set_cons_succ]
                  refine GoE.skip (i := 15) rfl (by decide) (by kernel_rfl) (by kernel_rfl) (by kernel_rfl) (by kernel_rfl) (fun _ _ _ h => h) (by rfl) (by assumption) ?_
                  try simp only [Act.put, List.setIfInBounds_toArray, List.set_cons_zero, List.set_cons_succ]
                  refine GoE.skip (i := 16) rfl (by decide) (by kernel_rfl) (by kernel_rfl) (by kernel_rfl) (by kernel_rfl) (fun _ _ _ h => h) (by rfl) (by assumption) ?_
                  try simp only [Act.put, List.setIfInBounds_toArray, List.set_cons_zero, List.set_cons_succ]
                  refine GoE.skip (i := 17) rfl (by decide) (by kernel_rfl) (by kernel_rfl) (by kernel_rfl) (by kernel_rfl) (fun _ _ _ h => h) (by rfl) (by assumption) ?_
                  try simp only [Act.put, List.setIfInBounds_toArray, List.set_cons_zero, List.set_cons_succ]
                  refine GoE.take (i := 18) (v := ?_) rfl (by decide) (by kernel_rfl) (by kernel_rfl) (by kernel_rfl) (by kernel_rfl) (fun _ _ _ h => h) (by rfl) ?_ (by assumption) ?_
                  rotate_left
                  · intro w hSw; (try dsimp only at hSw); go_simp; try (with_reducible rfl)
                  try simp only [Act.put, List.setIfInBounds_toArray, List.set_cons_zero, List.set_cons_succ]
                  refine GoE.one (i := 19) rfl (by kernel_rfl) (fun K hK => ?_)
                  go_simp
                  refine hK.out _ _ (fun h => absurd rfl h) ?_
                  clear hK K
                  try simp only [Act.put, List.setIfInBounds_toArray, List.set_cons_zero, List.set_cons_succ]
                  refine GoE.done (by kernel_rfl) ?_
                  go_wp2
                  go_roundw
                  case rel => exact ⟨k + 1, by omega, HT.out, by go_num, hd⟩
                  case measure => simp [intOf]; omega
                | false =>
                  have Hb := hid hb
                  have e8 : IntKind.i64.wrap (512 * (i : Int)) = ((512 * i : Nat) : Int) := by rw [show 512 * (i : Int) = ((512 * i : Nat) : Int) by omega]; exact IntWalk.i64_in _ (by omega)
                  have e9 : IntKind.i64.wrap (((512 * i : Nat) : Int) + 512) = ((512 * i + 512 : Nat) : Int) := by rw [show ((512 * i : Nat) : Int) + 512 = ((512 * i + 512 : Nat) : Int) by omega]; exact IntWalk.i64_in _ (by omega)
                  have g1 : 512 * i + 512 ≤ 8192 := by omega
                  have hcd := RdB.conv (plat_row (n := 16) HR2.out hlt (SlB.rd (hd.pull 1 : SatL wr.drew (SlB _ _ R2 :: _))))
                  rw [Hri.out] at hcd
                  obtain ⟨x, hx⟩ : ∃ x, x = 512 * i := ⟨_, rfl⟩
                  rw [← hx] at e8 e9 g1 hcd
                  have g3 : (0 : Int) ≤ (x : Int) + 512 := by omega
                  have g4 : (x : Int) + 512 ≤ (qc : Int) := by omega
                  have g5 : (x : Int) ≤ (x : Int) + 512 := by omega
                  have g6 : ((x : Int) + 512).toNat = x + 512 := by omega
                  have g7 : x + 512 - x = 512 := by omega
                  have g8 : ¬ qc = x := by omega
                  have Hx := hid hx
                  have S0 := And.intro (show wr.drew.cell? ⟨sb, i, none⟩ = some (.slice (some ⟨ub, uo, none⟩) (F i).length uc) from cu) (And.intro (show wr.drew.cell? ⟨ub, uo + k, none⟩ = some (.string ⟨fk.toArray⟩) from cf) hcd)
                  clear hb hcv cf hs hA hcell hfk hx hcd
                  go_wp2
                  by_cases heq : fk = row
                  · subst heq
                    have HT := hid (show Value.bool true = Value.bool (((F i).take (k + 1)).any (· == fk)) by rw [Hany.out, Hb.out, Bool.false_or]; simp)
                    refine GoE.start (fun w' => w'.cell? ⟨sb, i, none⟩ = some (.slice (some ⟨ub, uo, none⟩) (F i).length uc) ∧ w'.cell? ⟨ub, uo + k, none⟩ = some (.string ⟨fk.toArray⟩) ∧ (convert 33 9 (.slice (some ⟨qb, qo + x, none⟩) 512 (qc - x))).run Try.prog w' = .ok (.string ⟨fk.toArray⟩) w') 19 20 rfl (by kernel_rfl) ?_
                    refine GoE.take (i := 0) (v := ?_) rfl (by decide) (by kernel_rfl) (by kernel_rfl) (by kernel_rfl) (by kernel_rfl) (fun _ _ _ h => h) (by rfl) ?_ (by assumption) ?_
                    rotate_left
                    · intro w hSw; (try dsimp only at hSw); go_simp; try (with_reducible rfl)
                    try simp only [Act.put, List.setIfInBounds_toArray, List.set_cons_zero, List.set_cons_succ]
                    refine GoE.take (i := 1) (v := ?_) rfl (by decide) (by kernel_rfl) (by kernel_rfl) (by kernel_rfl) (by kernel_rfl) (fun _ _ _ h => h) (by rfl) ?_ (by assumption) ?_
                    rotate_left
                    · intro w hSw; (try dsimp only at hSw); go_simp; try (with_reducible rfl)
                    try simp only [Act.put, List.setIfInBounds_toArray, List.set_cons_zero, List.set_cons_succ]
                    refine GoE.take (i := 2) (v := ?_) rfl (by decide) (by kernel_rfl) (by kernel_rfl) (by kernel_rfl) (by kernel_rfl) (fun _ _ _ h => h) (by rfl) ?_ (by assumption) ?_
                    rotate_left
                    · intro w hSw; (try dsimp only at hSw); go_simp; try (with_reducible rfl)
                    try simp only [Act.put, List.setIfInBounds_toArray, List.set_cons_zero, List.set_cons_succ]
                    refine GoE.take (i := 3) (v := ?_) rfl (by decide) (by kernel_rfl) (by kernel_rfl) (by kernel_rfl) (by kernel_rfl) (fun _ _ _ h => h) (by rfl) ?_ (by assumption) ?_
                    rotate_left
                    · intro w hSw; (try dsimp only at hSw); go_simp; try (with_reducible rfl)
                    try simp only [Act.put, List.setIfInBounds_toArray, List.set_cons_zero, List.set_cons_succ]
                    refine GoE.take (i := 4) (v := ?_) rfl (by decide) (by kernel_rfl) (by kernel_rfl) (by kernel_rfl) (by kernel_rfl) (fun _ _ _ h => h) (by rfl) ?_ (by assumption) ?_
                    rotate_left
                    · intro w hSw; (try dsimp only at hSw); go_simp; try (with_reducible rfl)
                    try simp only [Act.put, List.setIfInBounds_toArray, List.set_cons_zero, List.set_cons_succ]
                    refine GoE.take (i := 5) (v := ?_) rfl (by decide) (by kernel_rfl) (by kernel_rfl) (by kernel_rfl) (by kernel_rfl) (fun _ _ _ h => h) (by rfl) ?_ (by assumption) ?_
                    rotate_left
                    · intro w hSw; (try dsimp only at hSw); go_simp; try (with_reducible rfl)
                    try simp only [Act.put, List.setIfInBounds_toArray, List.set_cons_zero, List.set_cons_succ]
                    refine GoE.take (i := 6) (v := ?_) rfl (by decide) (by kernel_rfl) (by kernel_rfl) (by kernel_rfl) (by kernel_rfl) (fun _ _ _ h => h) (by rfl) ?_ (by assumption) ?_
                    rotate_left
                    · intro w hSw; (try dsimp only at hSw); go_simp; try (with_reducible rfl)
                    try simp only [Act.put, List.setIfInBounds_toArray, List.set_cons_zero, List.set_cons_succ]
                    refine GoE.take (i := 7) (v := ?_) rfl (by decide) (by kernel_rfl) (by kernel_rfl) (by kernel_rfl) (by kernel_rfl) (fun _ _ _ h => h) (by rfl) ?_ (by assumption) ?_
                    rotate_left
                    · intro w hSw; (try dsimp only at hSw); go_simp; try (with_reducible rfl)
                    try simp only [Act.put, List.setIfInBounds_toArray, List.set_cons_zero, List.set_cons_succ]
                    refine GoE.take (i := 8) (v := ?_) rfl (by decide) (by kernel_rfl) (by kernel_rfl) (by kernel_rfl) (by kernel_rfl) (fun _ _ _ h => h) (by rfl) ?_ (by assumption) ?_
                    rotate_left
                    · intro w hSw; (try dsimp only at hSw); go_simp; try (with_reducible rfl)
                    try simp only [Act.put, List.setIfInBounds_toArray, List.set_cons_zero, List.set_cons_succ]
                    refine GoE.take (i := 9) (v := ?_) rfl (by decide) (by kernel_rfl) (by kernel_rfl) (by kernel_rfl) (by kernel_rfl) (fun _ _ _ h => h) (by rfl) ?_ (by assumption) ?_
                    rotate_left
                    · intro w hSw; (try dsimp only at hSw); go_simp; try (with_reducible rfl)
                    try simp only [Act.put, List.setIfInBounds_toArray, List.set_cons_zero, List.set_cons_succ]
                    refine GoE.take (i := 10) (v := ?_) rfl (by decide) (by kernel_rfl) (by kernel_rfl) (by kernel_rfl) (by kernel_rfl) (fun _ _ _ h => h) (by rfl) ?_ (by assumption) ?_
                    rotate_left
                    · intro w hSw; (try dsimp only at hSw); go_simp; try (with_reducible rfl)
                    try simp only [Act.put, List.setIfInBounds_toArray, List.set_cons_zero, List.set_cons_succ]
                    refine GoE.take (i := 11) (v := ?_) rfl (by decide) (by kernel_rfl) (by kernel_rfl) (by kernel_rfl) (by kernel_rfl) (fun _ _ _ h => h) (by rfl) ?_ (by assumption) ?_
                    rotate_left
                    · intro w hSw; (try dsimp only at hSw); go_simp; try (with_reducible rfl)
                    try simp only [Act.put, List.setIfInBounds_toArray, List.set_cons_zero, List.set_cons_succ]
                    refine GoE.take (i := 12) (v := ?_) rfl (by decide) (by kernel_rfl) (by kernel_rfl) (by kernel_rfl) (by kernel_rfl) (fun _ _ _ h => h) (by rfl) ?_ (by assumption) ?_
                    rotate_left
                    · intro w hSw; (try dsimp only at hSw); go_simp; try (with_reducible rfl)
                    try simp only [Act.put, List.setIfInBounds_toArray, List.set_cons_zero, List.set_cons_succ]
                    refine GoE.take (i := 13) (v := ?_) rfl (by decide) (by kernel_rfl) (by kernel_rfl) (by kernel_rfl) (by kernel_rfl) (fun _ _ _ h => h) (by rfl) ?_ (by assumption) ?_
                    rotate_left
                    · intro w hSw; (try dsimp only at hSw); go_simp; try (with_reducible rfl)
                    try simp only [Act.put, List.setIfInBounds_toArray, List.set_cons_zero, List.set_cons_succ]
                    refine GoE.take (i := 14) (v := ?_) rfl (by decide) (by kernel_rfl) (by kernel_rfl) (by kernel_rfl) (by kernel_rfl) (fun _ _ _ h => h) (by rfl) ?_ (by assumption) ?_
                    rotate_left
                    · intro w hSw; (try dsimp only at hSw); go_simp; try (with_reducible rfl)
                    try simp only [Act.put, List.setIfInBounds_toArray, List.set_cons_zero, List.set_cons_succ]
                    refine GoE.take (i := 15) (v := ?_) rfl (by decide) (by kernel_rfl) (by kernel_rfl) (by kernel_rfl) (by kernel_rfl) (fun _ _ _ h => h) (by rfl) ?_ (by assumption) ?_
                    rotate_left
                    · intro w hSw; (try dsimp only at hSw); go_simp; try (with_reducible rfl)
                    try simp only [Act.put, List.setIfInBounds_toArray, List.set_cons_zero, List.set_cons_succ]
                    refine GoE.take (i := 16) (v := ?_) rfl (by decide) (by kernel_rfl) (by kernel_rfl) (by kernel_rfl) (by kernel_rfl) (fun _ _ _ h => h) (by rfl) ?_ (by assumption) ?_
                    rotate_left
                    · intro w hSw; (try dsimp only at hSw); go_simp; try (with_reducible rfl)
                    try simp only [Act.put, List.setIfInBounds_toArray, List.set_cons_zero, List.set_cons_succ]
                    refine GoE.take (i := 17) (v := ?_) rfl (by decide) (by kernel_rfl) (by kernel_rfl) (by kernel_rfl) (by kernel_rfl) (fun _ _ _ h => h) (by rfl) ?_ (by assumption) ?_
                    rotate_left
                    · intro w hSw; (try dsimp only at hSw); go_simp; try (with_reducible rfl)
                    try simp only [Act.put, List.setIfInBounds_toArray, List.set_cons_zero, List.set_cons_succ]
                    refine GoE.take (i := 18) (v := ?_) rfl (by decide) (by kernel_rfl) (by kernel_rfl) (by kernel_rfl) (by kernel_rfl) (fun _ _ _ h => h) (by rfl) ?_ (by assumption) ?_
                    rotate_left
                    · intro w hSw; (try dsimp only at hSw); go_simp; try (with_reducible rfl)
                    try simp only [Act.put, List.setIfInBounds_toArray, List.set_cons_zero, List.set_cons_succ]
                    refine GoE.one (i := 19) rfl (by kernel_rfl) (fun K hK => ?_)
                    go_simp
                    refine hK.out _ _ (fun h => absurd rfl h) ?_
                    clear hK K
                    try simp only [Act.put, List.setIfInBounds_toArray, List.set_cons_zero, List.set_cons_succ]
                    refine GoE.done (by kernel_rfl) ?_
                    go_wp2
                    go_roundw
                    case rel => exact ⟨k + 1, by omega, HT.out, by go_num, hd⟩
                    case measure => simp [intOf]; omega
                  · have hne : ¬ (⟨fk.toArray⟩ : ByteArray) = ⟨row.toArray⟩ := fun e => heq ((strEq_iff _ _).1 e)
                    have HT := hid (show Value.bool (fk == row) = Value.bool (((F i).take (k + 1)).any (· == row)) by rw [Hany.out, Hb.out, Bool.false_or])
                    clear heq
                    refine GoE.start (fun w' => w'.cell? ⟨sb, i, none⟩ = some (.slice (some ⟨ub, uo, none⟩) (F i).length uc) ∧ w'.cell? ⟨ub, uo + k, none⟩ = some (.string ⟨fk.toArray⟩) ∧ (convert 33 9 (.slice (some ⟨qb, qo + x, none⟩) 512 (qc - x))).run Try.prog w' = .ok (.string ⟨row.toArray⟩) w') 19 20 rfl (by kernel_rfl) ?_
                    refine GoE.take (i := 0) (v := ?_) rfl (by decide) (by kernel_rfl) (by kernel_rfl) (by kernel_rfl) (by kernel_rfl) (fun _ _ _ h => h) (by rfl) ?_ (by assumption) ?_
                    rotate_left
                    · intro w hSw; (try dsimp only at hSw); go_simp; try (with_reducible rfl)
                    try simp only [Act.put, List.setIfInBounds_toArray, List.set_cons_zero, List.set_cons_succ]
                    refine GoE.take (i := 1) (v := ?_) rfl (by decide) (by kernel_rfl) (by kernel_rfl) (by kernel_rfl) (by kernel_rfl) (fun _ _ _ h => h) (by rfl) ?_ (by assumption) ?_
                    rotate_left
                    · intro w hSw; (try dsimp only at hSw); go_simp; try (with_reducible rfl)
                    try simp only [Act.put, List.setIfInBounds_toArray, List.set_cons_zero, List.set_cons_succ]
                    refine GoE.take (i := 2) (v := ?_) rfl (by decide) (by kernel_rfl) (by kernel_rfl) (by kernel_rfl) (by kernel_rfl) (fun _ _ _ h => h) (by rfl) ?_ (by assumption) ?_
                    rotate_left
                    · intro w hSw; (try dsimp only at hSw); go_simp; try (with_reducible rfl)
                    try simp only [Act.put, List.setIfInBounds_toArray, List.set_cons_zero, List.set_cons_succ]
                    refine GoE.take (i := 3) (v := ?_) rfl (by decide) (by kernel_rfl) (by kernel_rfl) (by kernel_rfl) (by kernel_rfl) (fun _ _ _ h => h) (by rfl) ?_ (by assumption) ?_
                    rotate_left
                    · intro w hSw; (try dsimp only at hSw); go_simp; try (with_reducible rfl)
                    try simp only [Act.put, List.setIfInBounds_toArray, List.set_cons_zero, List.set_cons_succ]
                    refine GoE.take (i := 4) (v := ?_) rfl (by decide) (by kernel_rfl) (by kernel_rfl) (by kernel_rfl) (by kernel_rfl) (fun _ _ _ h => h) (by rfl) ?_ (by assumption) ?_
                    rotate_left
                    · intro w hSw; (try dsimp only at hSw); go_simp; try (with_reducible rfl)
                    try simp only [Act.put, List.setIfInBounds_toArray, List.set_cons_zero, List.set_cons_succ]
                    refine GoE.take (i := 5) (v := ?_) rfl (by decide) (by kernel_rfl) (by kernel_rfl) (by kernel_rfl) (by kernel_rfl) (fun _ _ _ h => h) (by rfl) ?_ (by assumption) ?_
                    rotate_left
                    · intro w hSw; (try dsimp only at hSw); go_simp; try (with_reducible rfl)
                    try simp only [Act.put, List.setIfInBounds_toArray, List.set_cons_zero, List.set_cons_succ]
                    refine GoE.take (i := 6) (v := ?_) rfl (by decide) (by kernel_rfl) (by kernel_rfl) (by kernel_rfl) (by kernel_rfl) (fun _ _ _ h => h) (by rfl) ?_ (by assumption) ?_
                    rotate_left
                    · intro w hSw; (try dsimp only at hSw); go_simp; try (with_reducible rfl)
                    try simp only [Act.put, List.setIfInBounds_toArray, List.set_cons_zero, List.set_cons_succ]
                    refine GoE.take (i := 7) (v := ?_) rfl (by decide) (by kernel_rfl) (by kernel_rfl) (by kernel_rfl) (by kernel_rfl) (fun _ _ _ h => h) (by rfl) ?_ (by assumption) ?_
                    rotate_left
                    · intro w hSw; (try dsimp only at hSw); go_simp; try (with_reducible rfl)
                    try simp only [Act.put, List.setIfInBounds_toArray, List.set_cons_zero, List.set_cons_succ]
                    refine GoE.take (i := 8) (v := ?_) rfl (by decide) (by kernel_rfl) (by kernel_rfl) (by kernel_rfl) (by kernel_rfl) (fun _ _ _ h => h) (by rfl) ?_ (by assumption) ?_
                    rotate_left
                    · intro w hSw; (try dsimp only at hSw); go_simp; try (with_reducible rfl)
                    try simp only [Act.put, List.setIfInBounds_toArray, List.set_cons_zero, List.set_cons_succ]
                    refine GoE.take (i := 9) (v := ?_) rfl (by decide) (by kernel_rfl) (by kernel_rfl) (by kernel_rfl) (by kernel_rfl) (fun _ _ _ h => h) (by rfl) ?_ (by assumption) ?_
                    rotate_left
                    · intro w hSw; (try dsimp only at hSw); go_simp; try (with_reducible rfl)
                    try simp only [Act.put, List.setIfInBounds_toArray, List.set_cons_zero, List.set_cons_succ]
                    refine GoE.take (i := 10) (v := ?_) rfl (by decide) (by kernel_rfl) (by kernel_rfl) (by kernel_rfl) (by kernel_rfl) (fun _ _ _ h => h) (by rfl) ?_ (by assumption) ?_
                    rotate_left
                    · intro w hSw; (try dsimp only at hSw); go_simp; try (with_reducible rfl)
                    try simp only [Act.put, List.setIfInBounds_toArray, List.set_cons_zero, List.set_cons_succ]
                    refine GoE.take (i := 11) (v := ?_) rfl (by decide) (by kernel_rfl) (by kernel_rfl) (by kernel_rfl) (by kernel_rfl) (fun _ _ _ h => h) (by rfl) ?_ (by assumption) ?_
                    rotate_left
                    · intro w hSw; (try dsimp only at hSw); go_simp; try (with_reducible rfl)
                    try simp only [Act.put, List.setIfInBounds_toArray, List.set_cons_zero, List.set_cons_succ]
                    refine GoE.take (i := 12) (v := ?_) rfl (by decide) (by kernel_rfl) (by kernel_rfl) (by kernel_rfl) (by kernel_rfl) (fun _ _ _ h => h) (by rfl) ?_ (by assumption) ?_
                    rotate_left
                    · intro w hSw; (try dsimp only at hSw); go_simp; try (with_reducible rfl)
                    try simp only [Act.put, List.setIfInBounds_toArray, List.set_cons_zero, List.set_cons_succ]
                    refine GoE.take (i := 13) (v := ?_) rfl (by decide) (by kernel_rfl) (by kernel_rfl) (by kernel_rfl) (by kernel_rfl) (fun _ _ _ h => h) (by rfl) ?_ (by assumption) ?_
                    rotate_left
                    · intro w hSw; (try dsimp only at hSw); go_simp; try (with_reducible rfl)
                    try simp only [Act.put, List.setIfInBounds_toArray, List.set_cons_zero, List.set_cons_succ]
                    refine GoE.take (i := 14) (v := ?_) rfl (by decide) (by kernel_rfl) (by kernel_rfl) (by kernel_rfl) (by kernel_rfl) (fun _ _ _ h => h) (by rfl) ?_ (by assumption) ?_
                    rotate_left
                    · intro w hSw; (try dsimp only at hSw); go_simp; try (with_reducible rfl)
                    try simp only [Act.put, List.setIfInBounds_toArray, List.set_cons_zero, List.set_cons_succ]
                    refine GoE.take (i := 15) (v := ?_) rfl (by decide) (by kernel_rfl) (by kernel_rfl) (by kernel_rfl) (by kernel_rfl) (fun _ _ _ h => h) (by rfl) ?_ (by assumption) ?_
                    rotate_left
                    · intro w hSw; (try dsimp only at hSw); go_simp; try (with_reducible rfl)
                    try simp only [Act.put, List.setIfInBounds_toArray, List.set_cons_zero, List.set_cons_succ]
                    refine GoE.take (i := 16) (v := ?_) rfl (by decide) (by kernel_rfl) (by kernel_rfl) (by kernel_rfl) (by kernel_rfl) (fun _ _ _ h => h) (by rfl) ?_ (by assumption) ?_
                    rotate_left
                    · intro w hSw; (try dsimp only at hSw); go_simp; try (with_reducible rfl)
                    try simp only [Act.put, List.setIfInBounds_toArray, List.set_cons_zero, List.set_cons_succ]
                    refine GoE.take (i := 17) (v := ?_) rfl (by decide) (by kernel_rfl) (by kernel_rfl) (by kernel_rfl) (by kernel_rfl) (fun _ _ _ h => h) (by rfl) ?_ (by assumption) ?_
                    rotate_left
                    · intro w hSw; (try dsimp only at hSw); go_simp; try (with_reducible rfl)
                    try simp only [Act.put, List.setIfInBounds_toArray, List.set_cons_zero, List.set_cons_succ]
                    refine GoE.take (i := 18) (v := ?_) rfl (by decide) (by kernel_rfl) (by kernel_rfl) (by kernel_rfl) (by kernel_rfl) (fun _ _ _ h => h) (by rfl) ?_ (by assumption) ?_
                    rotate_left
                    · intro w hSw; (try dsimp only at hSw); go_simp; try (with_reducible rfl)
                    try simp only [Act.put, List.setIfInBounds_toArray, List.set_cons_zero, List.set_cons_succ]
                    refine GoE.one (i := 19) rfl (by kernel_rfl) (fun K hK => ?_)
                    go_simp
                    refine hK.out _ _ (fun h => absurd rfl h) ?_
                    clear hK K
                    try simp only [Act.put, List.setIfInBounds_toArray, List.set_cons_zero, List.set_cons_succ]
                    refine GoE.done (by kernel_rfl) ?_
                    go_wp2
                    go_roundw
                    case rel => exact ⟨k + 1, by omega, HT.out, by go_num, hd⟩
                    case measure => simp [intOf]; omega
              · have hkk : k = (F i).length := by omega
                have ht : ((F i).take k).any (· == row) = true := by rw [hkk, List.take_length]; exact List.any_eq_true.2 ⟨row, Hmi.out, by simp⟩
                have hkz : ¬ (k : Int) < ((F i).length : Int) := by omega
                have hs3 := hs
                rw [ht]
                clear hkk ht hs hA hcell
                go_wp2
                go_roundw
                case rel => exact ⟨i + 1, by omega, by go_num, hs3⟩
                case measure => simp [intOf]; omega
          · have hiz : ¬ (i : Int) < 16 := by omega
            have hs3 := hs.tail.tail
            clear hs
            go_wp2
            go_ret
            exact Ret.mk ⟨rfl, hs3⟩
end Go.Proofs.Ytjjiljijcigekaa
