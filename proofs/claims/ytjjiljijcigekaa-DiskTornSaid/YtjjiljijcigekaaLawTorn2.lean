/- DiskTorn: a write that is cut off is torn block by block. No condition. -/
import Derived.Test.YtjjiljijcigekaaTornP
namespace Go.Proofs.Ytjjiljijcigekaa
set_option linter.unusedVariables false
set_option linter.unusedSimpArgs false
open Go.RowKit
theorem tornB_len (n : Nat) (Z : Nat → Int) (i : Nat) : (tornB n Z i).length = 512 := by unfold tornB; split <;> exact blkN_len _ _
set_option maxRecDepth 100000 in
set_option maxHeartbeats 8000000 in
theorem torn_yes (a0 : Int) (a1 : Option Addr) (l1 c1 : Nat) (Z : Nat → Int) (w : World) (hZ : ∀ i, i < l1 → -9223372036854775808 ≤ Z i ∧ Z i ≤ 9223372036854775807) (hC : IsRow w 1 a1 l1 (fun i => [.int .i64 (Z i)])) :
    Calls Try.prog 4 #[.int .i64 a0, .slice a1 l1 c1, .bool true] w (Ret fun v w' => v = .bool true ∧ SatL w' [old w]) := by
  have hk := known_ok (sat_old w)
  have Hg := hid (gives_row (L := []) hC)
  have hnl : l1 ≤ 9223372036854775807 := hC.1
  have hwn := fun (w : World) => within_ok a0 (n := 16) (by omega) w
  have hk16 := wi_lt a0 (show 0 < 16 by omega)
  rw [show ((16 : Nat) : Int) = 16 from rfl] at hwn
  generalize wi a0 16 = k at *
  obtain ⟨N, hN⟩ : ∃ N, N = 1 + k := ⟨_, rfl⟩
  have hNk : 1 + (k : Int) = (N : Int) := by omega
  have hN16 : 1 ≤ N ∧ N ≤ 16 := by omega
  clear hN
  have hnew := fun (w' : World) (L' : List HP) (h : SatL w' L') => new_ok (n := 20) (by omega) h
  rw [show ((20 : Nat) : Int) = 20 from rfl] at hnew
  have hr1 := fun (w' : World) (L' : List HP) (h : SatL w' L') => row_ok (b := 1) (n := N) (by omega) (by omega) h
  have hr2 := fun (w' : World) (L' : List HP) (h : SatL w' L') => row_ok (b := 101) (n := N) (by omega) (by omega) h
  have hw1 := fun (w' : World) (db : Nat) (va : Option Addr) (vn vc : Nat) (L' : List HP) (h : SatL w' (DskR db (Dsk.new 20) :: L')) (g : Gives L' (RdB (.slice va vn vc) (rowB 1 N))) => write_ok (p := 2) (n := N) (rowB_len 1 N) (by omega) (by show 2 + N ≤ 20; omega) (by omega) (fun i => Nat.le_trans (new_le 20 i) (by omega)) h g
  have hw2 := fun (w' : World) (db : Nat) (va : Option Addr) (vn vc : Nat) (L' : List HP) (h : SatL w' (DskR db (tS1 N).flushed :: L')) (g : Gives L' (RdB (.slice va vn vc) (rowB 101 N))) => write_ok (p := 2) (n := N) (rowB_len 101 N) (by omega) (by show 2 + N ≤ 20; omega) (by omega) (fun i => by show ([] : List (List UInt8)).length ≤ _; simp) h g
  rw [show (Dsk.new 20).wr 2 (rowB 1 N) N = tS1 N from rfl] at hw1
  rw [show (tS1 N).flushed.wr 2 (rowB 101 N) N = tS3 N from rfl] at hw2
  have hdi := fun (w' : World) (db : Nat) (L' : List HP) (h : SatL w' (DskR db (tS3 N).flushed :: L')) => dirty_ok h
  have hdl : (tS3 N).flushed.dirtyN.length = 0 := by rw [tF_dirty]; rfl
  have hdl2 := hid (show ((tS3 N).flushed.dirty.map (Value.int .i64)).length = 0 by unfold Dsk.dirty; rw [List.length_map, List.length_map]; exact hdl)
  have hcr := fun (w' : World) (db : Nat) (h : SatL w' (DskR db (tS3 N).flushed :: [old w])) => crash_ok (c := c1) hZ (fun i => by show ([] : List (List UInt8)).length ≤ _; simp) h Hg.out
  rw [hdl] at hcr
  have hrd := fun (w' : World) (db : Nat) (L' : List HP) (h : SatL w' (DskR db ((tS3 N).flushed.crash l1 Z) :: L')) => read_ok (p := 2) (n := N) (by omega) (by show 2 + N ≤ 20; omega) (fun i => by show ([] : List (List UInt8)).length ≤ _; simp) h
  have hcur : ∀ i, i < N → ((tS3 N).flushed.crash l1 Z).cur (2 + i) = blockB (101 + i) := fun i hi => tF_cur hi (by omega)
  have hrow := hid (fun (i : Nat) (hi : i < N) => (rowAt_read (s := ((tS3 N).flushed.crash l1 Z)) (p := 2) hi (fun j hj => by rw [hcur j hj]; exact blkN_len _ _)).trans (hcur i hi))
  have hRl : (((tS3 N).flushed.crash l1 Z).read 2 N).length = 512 * N := by
    have : ∀ n, n ≤ N → (((tS3 N).flushed.crash l1 Z).read 2 n).length = 512 * n := by
      intro n
      induction n with
      | zero => intro _; rfl
      | succ n ih => intro hn; rw [read_snoc, List.length_append, ih (by omega), hcur n (by omega), blkN_len _ _]; omega
    exact this N (Nat.le_refl _)
  rw [show ((2 : Nat) : Int) = 2 from rfl] at hw1 hw2 hrd
  rw [show ((1 : Nat) : Int) = 1 from rfl] at hr1
  rw [show ((101 : Nat) : Int) = 101 from rfl] at hr2
  generalize ((tS3 N).flushed.crash l1 Z).read 2 N = R at *
  generalize ((tS3 N).flushed.crash l1 Z) = sF at *
  have hfl := fun (w' : World) (db : Nat) (L' : List HP) (h : SatL w' (DskR db (tS3 N) :: L')) => flush_ok h
  have Hfl := hid hfl
  generalize (tS3 N).flushed = s4 at *
  clear hfl
  have hf1 := fun (w' : World) (db : Nat) (L' : List HP) (h : SatL w' (DskR db (tS1 N) :: L')) => flush_ok h
  generalize (tS1 N).flushed = s2 at *
  generalize tS1 N = s1 at *
  generalize tS3 N = s3 at *
  generalize Dsk.new 20 = s0 at *
  generalize rowB 1 N = R1 at *
  generalize rowB 101 N = R2 at *
  have Hwn := hid hwn
  have Hnew := hid hnew
  have Hr1 := hid hr1
  have Hr2 := hid hr2
  have Hw1 := hid hw1
  have Hw2 := hid hw2
  have Hf1 := hid hf1
  have Hdi := hid hdi
  have Hcr := hid hcr
  have Hrd := hid hrd
  clear hwn hnew hr1 hr2 hw1 hw2 hf1 hdi hcr hrd hcur hC hZ hdl
  go_enter Try.func4, Try.ntmps4
  go_wp2_with (first
    | (go_at_call 8; (with_reducible refine hk.mono ?_); rintro e w1 ⟨v, rfl, rfl, h1⟩)
    | (go_at_call 11; (with_reducible refine (Hwn.out _).mono ?_); rintro e w' ⟨v, rfl, rfl, rfl⟩)
    | (go_at_call 9; (with_reducible refine (Hnew.out _ _ h1).mono ?_); rintro e w2 ⟨v, rfl, d1, rfl, h2⟩)
    | (go_at_call 15; (with_reducible refine (Hr1.out _ _ h2).mono ?_); rintro e w3 ⟨v, rfl, h3⟩; obtain ⟨va, vc, rfl, v1, v2⟩ := SlB.valn h3)
    | (go_at_call 10; (with_reducible refine (Hw1.out _ _ _ _ _ _ h3.swap SlB.gives).mono ?_); rintro e w4 ⟨v, rfl, rfl, h4a⟩; have h4 := SatL.tail h4a.swap; clear h3 h4a)
    | (go_at_call 16; (with_reducible refine (Hf1.out _ _ _ h4).mono ?_); rintro e w5 ⟨v, rfl, h5⟩)
    | (go_at_call 15; (with_reducible refine (Hr2.out _ _ h5).mono ?_); rintro e w6 ⟨v, rfl, h6a⟩; obtain ⟨ua, uc, rfl, u1, u2⟩ := SlB.valn h6a)
    | (go_at_call 10; (with_reducible refine (Hw2.out _ _ _ _ _ _ h6a.swap SlB.gives).mono ?_); rintro e w7 ⟨v, rfl, rfl, h7a⟩; have h7 := SatL.tail h7a.swap; clear h6a h7a)
    | (go_at_call 16; (with_reducible refine (Hfl.out _ _ _ h7).mono ?_); rintro e w8 ⟨v, rfl, h8⟩)
    | (go_at_call 14; (with_reducible refine (Hdi.out _ _ _ h8).mono ?_); rintro e w9 ⟨v, rfl, h9a⟩; obtain ⟨xa, xc, rfl, x1, x2⟩ := Sl.valn h9a hdl2.out; have h9 := SatL.tail h9a; clear h9a)
    | (go_at_call 17; (with_reducible refine (Hcr.out _ _ h9).mono ?_); rintro e w10 ⟨v, rfl, rfl, h10⟩)
    | (go_at_call 13; (with_reducible refine (Hrd.out _ _ _ h10).mono ?_); rintro e w11 ⟨v, rfl, rv, rfl, h6⟩))
  obtain ⟨ra, rc, hrv, r1, r2⟩ := SlB.valn h6
  rw [hRl] at hrv r1
  subst hrv
  obtain ⟨rb, ro, rfl⟩ := Sl.addr h6 (by omega)
  go_loopw [12] (fun v wr => ∃ i : Nat, i ≤ N ∧ v = .int .i64 i ∧ SatL wr (SlB 5 (.slice (some ⟨rb, ro, none⟩) (512 * N) rc) R :: DskR d1 sF :: [old w])) (fun v _ => N - (intOf v).toNat)
  case atStart => exact ⟨0, by omega, rfl, h6⟩
  case round =>
    clear h6
    obtain ⟨i, hi, rfl, hs⟩ := hrel
    by_cases hlt : i < N
    · have e1 : IntKind.u8.wrap (i : Int) = (i : Int) := by rw [IntKind.wrap_u8']; omega
      have e2 : IntKind.u8.wrap (1 + (i : Int)) = 1 + (i : Int) := by rw [IntKind.wrap_u8']; omega
      have e3 : IntKind.u8.wrap (101 + (i : Int)) = 101 + (i : Int) := by rw [IntKind.wrap_u8']; omega
      have hb1 := block_ok (b := 1 + i) (by omega) hs
      have Hb2 := hid (fun (w' : World) (L' : List HP) (h : SatL w' L') => block_ok (b := 101 + i) (by omega) h)
      simp only [Int.natCast_add, show ((1 : Nat) : Int) = 1 from rfl, show ((101 : Nat) : Int) = 101 from rfl] at hb1 Hb2
      have hiz : (i : Int) < (N : Int) := by omega
      clear hs
      have Htg := hid (show blockB (101 + i) = blockB (101 + i) from rfl)
      have Hri := hid ((hrow.out i hlt).trans Htg.out)
      generalize blockB (101 + i) = BB at *
      go_wp2_with (first
        | (go_at_call 12; (with_reducible refine hb1.mono ?_); rintro e w7 ⟨v, rfl, ya, yc, rfl, y1, h7⟩; have hb2' := Hb2.out _ _ h7)
        | (go_at_call 12; (with_reducible refine hb2'.mono ?_); rintro e w8 ⟨v, rfl, xa, xc, rfl, xx, hb⟩; clear hb2' h7))
      have hd := sat_drew.2 hb
      have hrs := RdB.conv (plat_row hRl hlt (SlB.rd (hd.pull 2 : SatL _ (SlB _ _ R :: _))))
      rw [Hri.out] at hrs
      have S0 := And.intro hrs (RdB.conv (SlB.rd hd))
      have e7 : 512 * (i : Int) = ((512 * i : Nat) : Int) := by omega
      have e8 : IntKind.i64.wrap (512 * (i : Int)) = ((512 * i : Nat) : Int) := by rw [e7]; exact IntWalk.i64_in _ (by omega)
      have e9 : IntKind.i64.wrap (((512 * i : Nat) : Int) + 512) = ((512 * i + 512 : Nat) : Int) := by rw [show ((512 * i : Nat) : Int) + 512 = ((512 * i + 512 : Nat) : Int) by omega]; exact IntWalk.i64_in _ (by omega)
      have g1 : 512 * i + 512 ≤ 512 * N := by omega
      have g2 : 512 * N ≤ rc := r1
      clear e7
      obtain ⟨z, hz⟩ : ∃ z, z = 512 * N := ⟨_, rfl⟩
      obtain ⟨x, hx⟩ : ∃ x, x = 512 * i := ⟨_, rfl⟩
      rw [← hx] at e8 e9 g1 S0
      rw [← hz] at g1 g2 ⊢
      have g3 : (0 : Int) ≤ (x : Int) + 512 := by omega
      have g4 : (x : Int) + 512 ≤ (rc : Int) := by omega
      have g5 : (x : Int) ≤ (x : Int) + 512 := by omega
      have g6 : ((x : Int) + 512).toNat = x + 512 := by omega
      have g7 : x + 512 - x = 512 := by omega
      have g8 : ¬ rc = x := by omega
      have Hz := hid hz
      have Hx := hid hx
      clear hz hx hrs hd
      refine GoE.start (fun w' => (convert 33 9 (.slice (some ⟨rb, ro + x, none⟩) 512 (rc - x))).run Try.prog w' = .ok (.string ⟨BB.toArray⟩) w' ∧ (convert 33 9 (.slice xa 512 xc)).run Try.prog w' = .ok (.string ⟨BB.toArray⟩) w') 10 11 rfl (by kernel_rfl) ?_
      refine GoE.take (i := 0) (v := ?_) rfl (by decide) (by kernel_rfl) (by kernel_rfl) (by kernel_rfl) (by kernel_rfl) (fun _ _ _ h => h) (by rfl) ?_ (by assumption) ?_
      rotate_left
      · intro w hSw; (try dsimp only at hSw); go_simp; try (with_reducible rfl)
      try simp only [Act.put, List.setIfInBounds_toArray, List.set_cons_zero, List.set_cons_succ]
      refine GoE.take (i := 1) (v := ?_) rfl (by decide) (by kernel_rfl) (by kernel_rfl) (by kernel_rfl) (by kernel_rfl) (fun _ _ _ h => h) (by rfl) ?_ (by assumption) ?_
      rotate_left
      · intro w hSw; (try dsimp only at hSw); go_simp; try (with_reducible rfl)
      try simp only [Act.put, List.setIfInBounds_toArray, List.set_cons_zero, List.set_cons_succ]
      refine GoE.take (i := 2) (v := ?_) rfl (by decide) (by kernel_rfl) (by kernel_rfl) (by kernel_rfl) (by kernel_rfl) (fun _ _ _ h => h) (by rfl) ?_ (by assumption) ?_
      rotate_left
      · intro w hSw; (try dsimp only at hSw); go_simp; try (with_reducible rfl)
      try simp only [Act.put, List.setIfInBounds_toArray, List.set_cons_zero, List.set_cons_succ]
      refine GoE.take (i := 3) (v := ?_) rfl (by decide) (by kernel_rfl) (by kernel_rfl) (by kernel_rfl) (by kernel_rfl) (fun _ _ _ h => h) (by rfl) ?_ (by assumption) ?_
      rotate_left
      · intro w hSw; (try dsimp only at hSw); go_simp; try (with_reducible rfl)
      try simp only [Act.put, List.setIfInBounds_toArray, List.set_cons_zero, List.set_cons_succ]
      refine GoE.take (i := 4) (v := ?_) rfl (by decide) (by kernel_rfl) (by kernel_rfl) (by kernel_rfl) (by kernel_rfl) (fun _ _ _ h => h) (by rfl) ?_ (by assumption) ?_
      rotate_left
      · intro w hSw; (try dsimp only at hSw); go_simp; try (with_reducible rfl)
      try simp only [Act.put, List.setIfInBounds_toArray, List.set_cons_zero, List.set_cons_succ]
      refine GoE.take (i := 5) (v := ?_) rfl (by decide) (by kernel_rfl) (by kernel_rfl) (by kernel_rfl) (by kernel_rfl) (fun _ _ _ h => h) (by rfl) ?_ (by assumption) ?_
      rotate_left
      · intro w hSw; (try dsimp only at hSw); go_simp; try (with_reducible rfl)
      try simp only [Act.put, List.setIfInBounds_toArray, List.set_cons_zero, List.set_cons_succ]
      refine GoE.take (i := 6) (v := ?_) rfl (by decide) (by kernel_rfl) (by kernel_rfl) (by kernel_rfl) (by kernel_rfl) (fun _ _ _ h => h) (by rfl) ?_ (by assumption) ?_
      rotate_left
      · intro w hSw; (try dsimp only at hSw); go_simp; try (with_reducible rfl)
      try simp only [Act.put, List.setIfInBounds_toArray, List.set_cons_zero, List.set_cons_succ]
      refine GoE.take (i := 7) (v := ?_) rfl (by decide) (by kernel_rfl) (by kernel_rfl) (by kernel_rfl) (by kernel_rfl) (fun _ _ _ h => h) (by rfl) ?_ (by assumption) ?_
      rotate_left
      · intro w hSw; (try dsimp only at hSw); go_simp; try (with_reducible rfl)
      try simp only [Act.put, List.setIfInBounds_toArray, List.set_cons_zero, List.set_cons_succ]
      refine GoE.take (i := 8) (v := ?_) rfl (by decide) (by kernel_rfl) (by kernel_rfl) (by kernel_rfl) (by kernel_rfl) (fun _ _ _ h => h) (by rfl) ?_ (by assumption) ?_
      rotate_left
      · intro w hSw; (try dsimp only at hSw); go_simp; try (with_reducible rfl)
      try simp only [Act.put, List.setIfInBounds_toArray, List.set_cons_zero, List.set_cons_succ]
      refine GoE.take (i := 9) (v := ?_) rfl (by decide) (by kernel_rfl) (by kernel_rfl) (by kernel_rfl) (by kernel_rfl) (fun _ _ _ h => h) (by rfl) ?_ (by assumption) ?_
      rotate_left
      · intro w hSw; (try dsimp only at hSw); go_simp; try (with_reducible rfl)
      try simp only [Act.put, List.setIfInBounds_toArray, List.set_cons_zero, List.set_cons_succ]
      refine GoE.one (i := 10) rfl (by kernel_rfl) (fun K hK => ?_)
      go_simp
      refine hK.out _ _ (fun h => absurd rfl h) ?_
      clear hK K
      try simp only [Act.put, List.setIfInBounds_toArray, List.set_cons_zero, List.set_cons_succ]
      refine GoE.done (by kernel_rfl) ?_
      rw [Hz.out]
      go_wp2
      go_roundw
      case rel => exact ⟨i + 1, by omega, by go_num, SatL.tail (SatL.tail (sat_drew.2 hb))⟩
      case measure => simp [intOf]; omega
    · obtain rfl : i = N := by omega
      go_wp2
      go_ret
      exact Ret.mk ⟨rfl, hs.tail.tail⟩
set_option maxRecDepth 100000 in
set_option maxHeartbeats 8000000 in
theorem torn_no (a0 : Int) (a1 : Option Addr) (l1 c1 : Nat) (Z : Nat → Int) (w : World) (hZ : ∀ i, i < l1 → -9223372036854775808 ≤ Z i ∧ Z i ≤ 9223372036854775807) (hC : IsRow w 1 a1 l1 (fun i => [.int .i64 (Z i)])) :
    Calls Try.prog 4 #[.int .i64 a0, .slice a1 l1 c1, .bool false] w (Ret fun v w' => v = .bool true ∧ SatL w' [old w]) := by
  have hk := known_ok (sat_old w)
  have Hg := hid (gives_row (L := []) hC)
  have hnl : l1 ≤ 9223372036854775807 := hC.1
  have hwn := fun (w : World) => within_ok a0 (n := 16) (by omega) w
  have hk16 := wi_lt a0 (show 0 < 16 by omega)
  rw [show ((16 : Nat) : Int) = 16 from rfl] at hwn
  generalize wi a0 16 = k at *
  obtain ⟨N, hN⟩ : ∃ N, N = 1 + k := ⟨_, rfl⟩
  have hNk : 1 + (k : Int) = (N : Int) := by omega
  have hN16 : 1 ≤ N ∧ N ≤ 16 := by omega
  clear hN
  have hnew := fun (w' : World) (L' : List HP) (h : SatL w' L') => new_ok (n := 20) (by omega) h
  rw [show ((20 : Nat) : Int) = 20 from rfl] at hnew
  have hr1 := fun (w' : World) (L' : List HP) (h : SatL w' L') => row_ok (b := 1) (n := N) (by omega) (by omega) h
  have hr2 := fun (w' : World) (L' : List HP) (h : SatL w' L') => row_ok (b := 101) (n := N) (by omega) (by omega) h
  have hw1 := fun (w' : World) (db : Nat) (va : Option Addr) (vn vc : Nat) (L' : List HP) (h : SatL w' (DskR db (Dsk.new 20) :: L')) (g : Gives L' (RdB (.slice va vn vc) (rowB 1 N))) => write_ok (p := 2) (n := N) (rowB_len 1 N) (by omega) (by show 2 + N ≤ 20; omega) (by omega) (fun i => Nat.le_trans (new_le 20 i) (by omega)) h g
  have hw2 := fun (w' : World) (db : Nat) (va : Option Addr) (vn vc : Nat) (L' : List HP) (h : SatL w' (DskR db (tS1 N).flushed :: L')) (g : Gives L' (RdB (.slice va vn vc) (rowB 101 N))) => write_ok (p := 2) (n := N) (rowB_len 101 N) (by omega) (by show 2 + N ≤ 20; omega) (by omega) (fun i => by show ([] : List (List UInt8)).length ≤ _; simp) h g
  rw [show (Dsk.new 20).wr 2 (rowB 1 N) N = tS1 N from rfl] at hw1
  rw [show (tS1 N).flushed.wr 2 (rowB 101 N) N = tS3 N from rfl] at hw2
  have hdi := fun (w' : World) (db : Nat) (L' : List HP) (h : SatL w' (DskR db (tS3 N) :: L')) => dirty_ok h
  have hdl : (tS3 N).dirtyN.length = N := by rw [t3_dirty (by omega), List.length_map, List.length_range]
  have hdl2 := hid (show ((tS3 N).dirty.map (Value.int .i64)).length = N by unfold Dsk.dirty; rw [List.length_map, List.length_map]; exact hdl)
  have hcr := fun (w' : World) (db : Nat) (h : SatL w' (DskR db (tS3 N) :: [old w])) => crash_ok (c := c1) hZ (fun i => Nat.le_trans (t3_le N i) (by omega)) h Hg.out
  rw [hdl] at hcr
  have hrd := fun (w' : World) (db : Nat) (L' : List HP) (h : SatL w' (DskR db ((tS3 N).crash l1 Z) :: L')) => read_ok (p := 2) (n := N) (by omega) (by show 2 + N ≤ 20; omega) (fun i => by show ([] : List (List UInt8)).length ≤ _; simp) h
  have hcur : ∀ i, i < N → ((tS3 N).crash l1 Z).cur (2 + i) = tornB l1 Z i := fun i hi => tN_cur hi (by omega)
  have hrow := hid (fun (i : Nat) (hi : i < N) => (rowAt_read (s := ((tS3 N).crash l1 Z)) (p := 2) hi (fun j hj => by rw [hcur j hj]; exact tornB_len _ _ _)).trans (hcur i hi))
  have hRl : (((tS3 N).crash l1 Z).read 2 N).length = 512 * N := by
    have : ∀ n, n ≤ N → (((tS3 N).crash l1 Z).read 2 n).length = 512 * n := by
      intro n
      induction n with
      | zero => intro _; rfl
      | succ n ih => intro hn; rw [read_snoc, List.length_append, ih (by omega), hcur n (by omega), tornB_len _ _ _]; omega
    exact this N (Nat.le_refl _)
  rw [show ((2 : Nat) : Int) = 2 from rfl] at hw1 hw2 hrd
  rw [show ((1 : Nat) : Int) = 1 from rfl] at hr1
  rw [show ((101 : Nat) : Int) = 101 from rfl] at hr2
  generalize ((tS3 N).crash l1 Z).read 2 N = R at *
  generalize ((tS3 N).crash l1 Z) = sF at *
  have hf1 := fun (w' : World) (db : Nat) (L' : List HP) (h : SatL w' (DskR db (tS1 N) :: L')) => flush_ok h
  generalize (tS1 N).flushed = s2 at *
  generalize tS1 N = s1 at *
  generalize tS3 N = s3 at *
  generalize Dsk.new 20 = s0 at *
  generalize rowB 1 N = R1 at *
  generalize rowB 101 N = R2 at *
  have Hwn := hid hwn
  have Hnew := hid hnew
  have Hr1 := hid hr1
  have Hr2 := hid hr2
  have Hw1 := hid hw1
  have Hw2 := hid hw2
  have Hf1 := hid hf1
  have Hdi := hid hdi
  have Hcr := hid hcr
  have Hrd := hid hrd
  clear hwn hnew hr1 hr2 hw1 hw2 hf1 hdi hcr hrd hcur hC hZ hdl
  go_enter Try.func4, Try.ntmps4
  go_wp2_with (first
    | (go_at_call 8; (with_reducible refine hk.mono ?_); rintro e w1 ⟨v, rfl, rfl, h1⟩)
    | (go_at_call 11; (with_reducible refine (Hwn.out _).mono ?_); rintro e w' ⟨v, rfl, rfl, rfl⟩)
    | (go_at_call 9; (with_reducible refine (Hnew.out _ _ h1).mono ?_); rintro e w2 ⟨v, rfl, d1, rfl, h2⟩)
    | (go_at_call 15; (with_reducible refine (Hr1.out _ _ h2).mono ?_); rintro e w3 ⟨v, rfl, h3⟩; obtain ⟨va, vc, rfl, v1, v2⟩ := SlB.valn h3)
    | (go_at_call 10; (with_reducible refine (Hw1.out _ _ _ _ _ _ h3.swap SlB.gives).mono ?_); rintro e w4 ⟨v, rfl, rfl, h4a⟩; have h4 := SatL.tail h4a.swap; clear h3 h4a)
    | (go_at_call 16; (with_reducible refine (Hf1.out _ _ _ h4).mono ?_); rintro e w5 ⟨v, rfl, h5⟩)
    | (go_at_call 15; (with_reducible refine (Hr2.out _ _ h5).mono ?_); rintro e w6 ⟨v, rfl, h6a⟩; obtain ⟨ua, uc, rfl, u1, u2⟩ := SlB.valn h6a)
    | (go_at_call 10; (with_reducible refine (Hw2.out _ _ _ _ _ _ h6a.swap SlB.gives).mono ?_); rintro e w7 ⟨v, rfl, rfl, h7a⟩; have h7 := SatL.tail h7a.swap; clear h6a h7a)
    | (go_at_call 14; (with_reducible refine (Hdi.out _ _ _ h7).mono ?_); rintro e w9 ⟨v, rfl, h9a⟩; obtain ⟨xa, xc, rfl, x1, x2⟩ := Sl.valn h9a hdl2.out; have h9 := SatL.tail h9a; clear h9a)
    | (go_at_call 17; (with_reducible refine (Hcr.out _ _ h9).mono ?_); rintro e w10 ⟨v, rfl, rfl, h10⟩)
    | (go_at_call 13; (with_reducible refine (Hrd.out _ _ _ h10).mono ?_); rintro e w11 ⟨v, rfl, rv, rfl, h6⟩))
  obtain ⟨ra, rc, hrv, r1, r2⟩ := SlB.valn h6
  rw [hRl] at hrv r1
  subst hrv
  obtain ⟨rb, ro, rfl⟩ := Sl.addr h6 (by omega)
  go_loopw [12] (fun v wr => ∃ i : Nat, i ≤ N ∧ v = .int .i64 i ∧ SatL wr (SlB 5 (.slice (some ⟨rb, ro, none⟩) (512 * N) rc) R :: DskR d1 sF :: [old w])) (fun v _ => N - (intOf v).toNat)
  case atStart => exact ⟨0, by omega, rfl, h6⟩
  case round =>
    clear h6
    obtain ⟨i, hi, rfl, hs⟩ := hrel
    by_cases hlt : i < N
    · have e1 : IntKind.u8.wrap (i : Int) = (i : Int) := by rw [IntKind.wrap_u8']; omega
      have e2 : IntKind.u8.wrap (1 + (i : Int)) = 1 + (i : Int) := by rw [IntKind.wrap_u8']; omega
      have e3 : IntKind.u8.wrap (101 + (i : Int)) = 101 + (i : Int) := by rw [IntKind.wrap_u8']; omega
      have hb1 := block_ok (b := 1 + i) (by omega) hs
      have Hb2 := hid (fun (w' : World) (L' : List HP) (h : SatL w' L') => block_ok (b := 101 + i) (by omega) h)
      simp only [Int.natCast_add, show ((1 : Nat) : Int) = 1 from rfl, show ((101 : Nat) : Int) = 101 from rfl] at hb1 Hb2
      have hiz : (i : Int) < (N : Int) := by omega
      have HwrO := hs.tail.tail
      clear hs
      by_cases hil : i < l1
      · obtain ⟨pb, po, rfl, hx⟩ := (Hg.out wr HwrO).2 (by omega)
        have cz := (hx i hil).2 0 _ rfl
        rw [Nat.mul_one, Nat.add_zero] at cz
        have hwz := fun (w : World) => within_ok (Z i) (n := 2) (by omega) w
        rw [show ((2 : Nat) : Int) = 2 from rfl] at hwz
        have htb : tornB l1 Z i = if i < l1 ∧ wi (Z i) 2 = 1 then blockB (101 + i) else blockB (1 + i) := rfl
        clear hx
        have hilz : (i : Int) < (l1 : Int) := by omega
        by_cases hk1 : wi (Z i) 2 = 1
        · rw [if_pos ⟨hil, hk1⟩] at htb
          rw [hk1, show ((1 : Nat) : Int) = 1 from rfl] at hwz
          have Htg := hid htb
          have Hwz := hid hwz
          clear htb hwz hk1
          generalize Z i = zi at *
          have Hri := hid ((hrow.out i hlt).trans Htg.out)
          generalize blockB (101 + i) = BB at *
          go_wp2_with (first
            | (go_at_call 11; (with_reducible refine (Hwz.out _).mono ?_); rintro e w' ⟨v, rfl, rfl, rfl⟩)
            | (go_at_call 12; (with_reducible refine hb1.mono ?_); rintro e w7 ⟨v, rfl, ya, yc, rfl, y1, h7⟩; have hb2' := Hb2.out _ _ h7)
            | (go_at_call 12; (with_reducible refine hb2'.mono ?_); rintro e w8 ⟨v, rfl, xa, xc, rfl, xx, hb⟩; clear hb2' h7))
          have hd := sat_drew.2 hb
          have hrs := RdB.conv (plat_row hRl hlt (SlB.rd (hd.pull 2 : SatL _ (SlB _ _ R :: _))))
          rw [Hri.out] at hrs
          have S0 := And.intro hrs (RdB.conv (SlB.rd hd))
          have e7 : 512 * (i : Int) = ((512 * i : Nat) : Int) := by omega
          have e8 : IntKind.i64.wrap (512 * (i : Int)) = ((512 * i : Nat) : Int) := by rw [e7]; exact IntWalk.i64_in _ (by omega)
          have e9 : IntKind.i64.wrap (((512 * i : Nat) : Int) + 512) = ((512 * i + 512 : Nat) : Int) := by rw [show ((512 * i : Nat) : Int) + 512 = ((512 * i + 512 : Nat) : Int) by omega]; exact IntWalk.i64_in _ (by omega)
          have g1 : 512 * i + 512 ≤ 512 * N := by omega
          have g2 : 512 * N ≤ rc := r1
          clear e7
          obtain ⟨z, hz⟩ : ∃ z, z = 512 * N := ⟨_, rfl⟩
          obtain ⟨x, hx⟩ : ∃ x, x = 512 * i := ⟨_, rfl⟩
          rw [← hx] at e8 e9 g1 S0
          rw [← hz] at g1 g2 ⊢
          have g3 : (0 : Int) ≤ (x : Int) + 512 := by omega
          have g4 : (x : Int) + 512 ≤ (rc : Int) := by omega
          have g5 : (x : Int) ≤ (x : Int) + 512 := by omega
          have g6 : ((x : Int) + 512).toNat = x + 512 := by omega
          have g7 : x + 512 - x = 512 := by omega
          have g8 : ¬ rc = x := by omega
          have Hz := hid hz
          have Hx := hid hx
          clear hz hx hrs hd
          refine GoE.start (fun w' => (convert 33 9 (.slice (some ⟨rb, ro + x, none⟩) 512 (rc - x))).run Try.prog w' = .ok (.string ⟨BB.toArray⟩) w' ∧ (convert 33 9 (.slice xa 512 xc)).run Try.prog w' = .ok (.string ⟨BB.toArray⟩) w') 10 11 rfl (by kernel_rfl) ?_
          refine GoE.take (i := 0) (v := ?_) rfl (by decide) (by kernel_rfl) (by kernel_rfl) (by kernel_rfl) (by kernel_rfl) (fun _ _ _ h => h) (by rfl) ?_ (by assumption) ?_
          rotate_left
          · intro w hSw; (try dsimp only at hSw); go_simp; try (with_reducible rfl)
          try simp only [Act.put, List.setIfInBounds_toArray, List.set_cons_zero, List.set_cons_succ]
          refine GoE.take (i := 1) (v := ?_) rfl (by decide) (by kernel_rfl) (by kernel_rfl) (by kernel_rfl) (by kernel_rfl) (fun _ _ _ h => h) (by rfl) ?_ (by assumption) ?_
          rotate_left
          · intro w hSw; (try dsimp only at hSw); go_simp; try (with_reducible rfl)
          try simp only [Act.put, List.setIfInBounds_toArray, List.set_cons_zero, List.set_cons_succ]
          refine GoE.take (i := 2) (v := ?_) rfl (by decide) (by kernel_rfl) (by kernel_rfl) (by kernel_rfl) (by kernel_rfl) (fun _ _ _ h => h) (by rfl) ?_ (by assumption) ?_
          rotate_left
          · intro w hSw; (try dsimp only at hSw); go_simp; try (with_reducible rfl)
          try simp only [Act.put, List.setIfInBounds_toArray, List.set_cons_zero, List.set_cons_succ]
          refine GoE.take (i := 3) (v := ?_) rfl (by decide) (by kernel_rfl) (by kernel_rfl) (by kernel_rfl) (by kernel_rfl) (fun _ _ _ h => h) (by rfl) ?_ (by assumption) ?_
          rotate_left
          · intro w hSw; (try dsimp only at hSw); go_simp; try (with_reducible rfl)
          try simp only [Act.put, List.setIfInBounds_toArray, List.set_cons_zero, List.set_cons_succ]
          refine GoE.take (i := 4) (v := ?_) rfl (by decide) (by kernel_rfl) (by kernel_rfl) (by kernel_rfl) (by kernel_rfl) (fun _ _ _ h => h) (by rfl) ?_ (by assumption) ?_
          rotate_left
          · intro w hSw; (try dsimp only at hSw); go_simp; try (with_reducible rfl)
          try simp only [Act.put, List.setIfInBounds_toArray, List.set_cons_zero, List.set_cons_succ]
          refine GoE.take (i := 5) (v := ?_) rfl (by decide) (by kernel_rfl) (by kernel_rfl) (by kernel_rfl) (by kernel_rfl) (fun _ _ _ h => h) (by rfl) ?_ (by assumption) ?_
          rotate_left
          · intro w hSw; (try dsimp only at hSw); go_simp; try (with_reducible rfl)
          try simp only [Act.put, List.setIfInBounds_toArray, List.set_cons_zero, List.set_cons_succ]
          refine GoE.take (i := 6) (v := ?_) rfl (by decide) (by kernel_rfl) (by kernel_rfl) (by kernel_rfl) (by kernel_rfl) (fun _ _ _ h => h) (by rfl) ?_ (by assumption) ?_
          rotate_left
          · intro w hSw; (try dsimp only at hSw); go_simp; try (with_reducible rfl)
          try simp only [Act.put, List.setIfInBounds_toArray, List.set_cons_zero, List.set_cons_succ]
          refine GoE.take (i := 7) (v := ?_) rfl (by decide) (by kernel_rfl) (by kernel_rfl) (by kernel_rfl) (by kernel_rfl) (fun _ _ _ h => h) (by rfl) ?_ (by assumption) ?_
          rotate_left
          · intro w hSw; (try dsimp only at hSw); go_simp; try (with_reducible rfl)
          try simp only [Act.put, List.setIfInBounds_toArray, List.set_cons_zero, List.set_cons_succ]
          refine GoE.take (i := 8) (v := ?_) rfl (by decide) (by kernel_rfl) (by kernel_rfl) (by kernel_rfl) (by kernel_rfl) (fun _ _ _ h => h) (by rfl) ?_ (by assumption) ?_
          rotate_left
          · intro w hSw; (try dsimp only at hSw); go_simp; try (with_reducible rfl)
          try simp only [Act.put, List.setIfInBounds_toArray, List.set_cons_zero, List.set_cons_succ]
          refine GoE.take (i := 9) (v := ?_) rfl (by decide) (by kernel_rfl) (by kernel_rfl) (by kernel_rfl) (by kernel_rfl) (fun _ _ _ h => h) (by rfl) ?_ (by assumption) ?_
          rotate_left
          · intro w hSw; (try dsimp only at hSw); go_simp; try (with_reducible rfl)
          try simp only [Act.put, List.setIfInBounds_toArray, List.set_cons_zero, List.set_cons_succ]
          refine GoE.one (i := 10) rfl (by kernel_rfl) (fun K hK => ?_)
          go_simp
          refine hK.out _ _ (fun h => absurd rfl h) ?_
          clear hK K
          try simp only [Act.put, List.setIfInBounds_toArray, List.set_cons_zero, List.set_cons_succ]
          refine GoE.done (by kernel_rfl) ?_
          rw [Hz.out]
          go_wp2
          go_roundw
          case rel => exact ⟨i + 1, by omega, by go_num, SatL.tail (SatL.tail (sat_drew.2 hb))⟩
          case measure => simp [intOf]; omega
        · rw [if_neg (fun e => hk1 e.2)] at htb
          have hkz : ¬ ((wi (Z i) 2 : Nat) : Int) = 1 := by omega
          have Htg := hid htb
          have Hwz := hid hwz
          clear htb hwz hk1
          generalize wi (Z i) 2 = zk at *
          generalize Z i = zi at *
          have Hri := hid ((hrow.out i hlt).trans Htg.out)
          generalize blockB (1 + i) = BB at *
          go_wp2_with (first
            | (go_at_call 11; (with_reducible refine (Hwz.out _).mono ?_); rintro e w' ⟨v, rfl, rfl, rfl⟩)
            | (go_at_call 12; (with_reducible refine hb1.mono ?_); rintro e w8 ⟨v, rfl, xa, xc, rfl, xx, hb⟩))
          have hd := sat_drew.2 hb
          have hrs := RdB.conv (plat_row hRl hlt (SlB.rd (hd.pull 1 : SatL _ (SlB _ _ R :: _))))
          rw [Hri.out] at hrs
          have S0 := And.intro hrs (RdB.conv (SlB.rd hd))
          have e7 : 512 * (i : Int) = ((512 * i : Nat) : Int) := by omega
          have e8 : IntKind.i64.wrap (512 * (i : Int)) = ((512 * i : Nat) : Int) := by rw [e7]; exact IntWalk.i64_in _ (by omega)
          have e9 : IntKind.i64.wrap (((512 * i : Nat) : Int) + 512) = ((512 * i + 512 : Nat) : Int) := by rw [show ((512 * i : Nat) : Int) + 512 = ((512 * i + 512 : Nat) : Int) by omega]; exact IntWalk.i64_in _ (by omega)
          have g1 : 512 * i + 512 ≤ 512 * N := by omega
          have g2 : 512 * N ≤ rc := r1
          clear e7
          obtain ⟨z, hz⟩ : ∃ z, z = 512 * N := ⟨_, rfl⟩
          obtain ⟨x, hx⟩ : ∃ x, x = 512 * i := ⟨_, rfl⟩
          rw [← hx] at e8 e9 g1 S0
          rw [← hz] at g1 g2 ⊢
          have g3 : (0 : Int) ≤ (x : Int) + 512 := by omega
          have g4 : (x : Int) + 512 ≤ (rc : Int) := by omega
          have g5 : (x : Int) ≤ (x : Int) + 512 := by omega
          have g6 : ((x : Int) + 512).toNat = x + 512 := by omega
          have g7 : x + 512 - x = 512 := by omega
          have g8 : ¬ rc = x := by omega
          have Hz := hid hz
          have Hx := hid hx
          clear hz hx hrs hd
          refine GoE.start (fun w' => (convert 33 9 (.slice (some ⟨rb, ro + x, none⟩) 512 (rc - x))).run Try.prog w' = .ok (.string ⟨BB.toArray⟩) w' ∧ (convert 33 9 (.slice xa 512 xc)).run Try.prog w' = .ok (.string ⟨BB.toArray⟩) w') 10 11 rfl (by kernel_rfl) ?_
          refine GoE.take (i := 0) (v := ?_) rfl (by decide) (by kernel_rfl) (by kernel_rfl) (by kernel_rfl) (by kernel_rfl) (fun _ _ _ h => h) (by rfl) ?_ (by assumption) ?_
          rotate_left
          · intro w hSw; (try dsimp only at hSw); go_simp; try (with_reducible rfl)
          try simp only [Act.put, List.setIfInBounds_toArray, List.set_cons_zero, List.set_cons_succ]
          refine GoE.take (i := 1) (v := ?_) rfl (by decide) (by kernel_rfl) (by kernel_rfl) (by kernel_rfl) (by kernel_rfl) (fun _ _ _ h => h) (by rfl) ?_ (by assumption) ?_
          rotate_left
          · intro w hSw; (try dsimp only at hSw); go_simp; try (with_reducible rfl)
          try simp only [Act.put, List.setIfInBounds_toArray, List.set_cons_zero, List.set_cons_succ]
          refine GoE.take (i := 2) (v := ?_) rfl (by decide) (by kernel_rfl) (by kernel_rfl) (by kernel_rfl) (by kernel_rfl) (fun _ _ _ h => h) (by rfl) ?_ (by assumption) ?_
          rotate_left
          · intro w hSw; (try dsimp only at hSw); go_simp; try (with_reducible rfl)
          try simp only [Act.put, List.setIfInBounds_toArray, List.set_cons_zero, List.set_cons_succ]
          refine GoE.take (i := 3) (v := ?_) rfl (by decide) (by kernel_rfl) (by kernel_rfl) (by kernel_rfl) (by kernel_rfl) (fun _ _ _ h => h) (by rfl) ?_ (by assumption) ?_
          rotate_left
          · intro w hSw; (try dsimp only at hSw); go_simp; try (with_reducible rfl)
          try simp only [Act.put, List.setIfInBounds_toArray, List.set_cons_zero, List.set_cons_succ]
          refine GoE.take (i := 4) (v := ?_) rfl (by decide) (by kernel_rfl) (by kernel_rfl) (by kernel_rfl) (by kernel_rfl) (fun _ _ _ h => h) (by rfl) ?_ (by assumption) ?_
          rotate_left
          · intro w hSw; (try dsimp only at hSw); go_simp; try (with_reducible rfl)
          try simp only [Act.put, List.setIfInBounds_toArray, List.set_cons_zero, List.set_cons_succ]
          refine GoE.take (i := 5) (v := ?_) rfl (by decide) (by kernel_rfl) (by kernel_rfl) (by kernel_rfl) (by kernel_rfl) (fun _ _ _ h => h) (by rfl) ?_ (by assumption) ?_
          rotate_left
          · intro w hSw; (try dsimp only at hSw); go_simp; try (with_reducible rfl)
          try simp only [Act.put, List.setIfInBounds_toArray, List.set_cons_zero, List.set_cons_succ]
          refine GoE.take (i := 6) (v := ?_) rfl (by decide) (by kernel_rfl) (by kernel_rfl) (by kernel_rfl) (by kernel_rfl) (fun _ _ _ h => h) (by rfl) ?_ (by assumption) ?_
          rotate_left
          · intro w hSw; (try dsimp only at hSw); go_simp; try (with_reducible rfl)
          try simp only [Act.put, List.setIfInBounds_toArray, List.set_cons_zero, List.set_cons_succ]
          refine GoE.take (i := 7) (v := ?_) rfl (by decide) (by kernel_rfl) (by kernel_rfl) (by kernel_rfl) (by kernel_rfl) (fun _ _ _ h => h) (by rfl) ?_ (by assumption) ?_
          rotate_left
          · intro w hSw; (try dsimp only at hSw); go_simp; try (with_reducible rfl)
          try simp only [Act.put, List.setIfInBounds_toArray, List.set_cons_zero, List.set_cons_succ]
          refine GoE.take (i := 8) (v := ?_) rfl (by decide) (by kernel_rfl) (by kernel_rfl) (by kernel_rfl) (by kernel_rfl) (fun _ _ _ h => h) (by rfl) ?_ (by assumption) ?_
          rotate_left
          · intro w hSw; (try dsimp only at hSw); go_simp; try (with_reducible rfl)
          try simp only [Act.put, List.setIfInBounds_toArray, List.set_cons_zero, List.set_cons_succ]
          refine GoE.take (i := 9) (v := ?_) rfl (by decide) (by kernel_rfl) (by kernel_rfl) (by kernel_rfl) (by kernel_rfl) (fun _ _ _ h => h) (by rfl) ?_ (by assumption) ?_
          rotate_left
          · intro w hSw; (try dsimp only at hSw); go_simp; try (with_reducible rfl)
          try simp only [Act.put, List.setIfInBounds_toArray, List.set_cons_zero, List.set_cons_succ]
          refine GoE.one (i := 10) rfl (by kernel_rfl) (fun K hK => ?_)
          go_simp
          refine hK.out _ _ (fun h => absurd rfl h) ?_
          clear hK K
          try simp only [Act.put, List.setIfInBounds_toArray, List.set_cons_zero, List.set_cons_succ]
          refine GoE.done (by kernel_rfl) ?_
          rw [Hz.out]
          go_wp2
          go_roundw
          case rel => exact ⟨i + 1, by omega, by go_num, SatL.tail (sat_drew.2 hb)⟩
          case measure => simp [intOf]; omega
      · have htb : tornB l1 Z i = if i < l1 ∧ wi (Z i) 2 = 1 then blockB (101 + i) else blockB (1 + i) := rfl
        rw [if_neg (fun e => hil e.1)] at htb
        have hilz : ¬ (i : Int) < (l1 : Int) := by omega
        have Htg := hid htb
        clear htb
        have Hri := hid ((hrow.out i hlt).trans Htg.out)
        generalize blockB (1 + i) = BB at *
        go_wp2_with (first
          | (go_at_call 12; (with_reducible refine hb1.mono ?_); rintro e w8 ⟨v, rfl, xa, xc, rfl, xx, hb⟩))
        have hd := sat_drew.2 hb
        have hrs := RdB.conv (plat_row hRl hlt (SlB.rd (hd.pull 1 : SatL _ (SlB _ _ R :: _))))
        rw [Hri.out] at hrs
        have S0 := And.intro hrs (RdB.conv (SlB.rd hd))
        have e7 : 512 * (i : Int) = ((512 * i : Nat) : Int) := by omega
        have e8 : IntKind.i64.wrap (512 * (i : Int)) = ((512 * i : Nat) : Int) := by rw [e7]; exact IntWalk.i64_in _ (by omega)
        have e9 : IntKind.i64.wrap (((512 * i : Nat) : Int) + 512) = ((512 * i + 512 : Nat) : Int) := by rw [show ((512 * i : Nat) : Int) + 512 = ((512 * i + 512 : Nat) : Int) by omega]; exact IntWalk.i64_in _ (by omega)
        have g1 : 512 * i + 512 ≤ 512 * N := by omega
        have g2 : 512 * N ≤ rc := r1
        clear e7
        obtain ⟨z, hz⟩ : ∃ z, z = 512 * N := ⟨_, rfl⟩
        obtain ⟨x, hx⟩ : ∃ x, x = 512 * i := ⟨_, rfl⟩
        rw [← hx] at e8 e9 g1 S0
        rw [← hz] at g1 g2 ⊢
        have g3 : (0 : Int) ≤ (x : Int) + 512 := by omega
        have g4 : (x : Int) + 512 ≤ (rc : Int) := by omega
        have g5 : (x : Int) ≤ (x : Int) + 512 := by omega
        have g6 : ((x : Int) + 512).toNat = x + 512 := by omega
        have g7 : x + 512 - x = 512 := by omega
        have g8 : ¬ rc = x := by omega
        have Hz := hid hz
        have Hx := hid hx
        clear hz hx hrs hd
        refine GoE.start (fun w' => (convert 33 9 (.slice (some ⟨rb, ro + x, none⟩) 512 (rc - x))).run Try.prog w' = .ok (.string ⟨BB.toArray⟩) w' ∧ (convert 33 9 (.slice xa 512 xc)).run Try.prog w' = .ok (.string ⟨BB.toArray⟩) w') 10 11 rfl (by kernel_rfl) ?_
        refine GoE.take (i := 0) (v := ?_) rfl (by decide) (by kernel_rfl) (by kernel_rfl) (by kernel_rfl) (by kernel_rfl) (fun _ _ _ h => h) (by rfl) ?_ (by assumption) ?_
        rotate_left
        · intro w hSw; (try dsimp only at hSw); go_simp; try (with_reducible rfl)
        try simp only [Act.put, List.setIfInBounds_toArray, List.set_cons_zero, List.set_cons_succ]
        refine GoE.take (i := 1) (v := ?_) rfl (by decide) (by kernel_rfl) (by kernel_rfl) (by kernel_rfl) (by kernel_rfl) (fun _ _ _ h => h) (by rfl) ?_ (by assumption) ?_
        rotate_left
        · intro w hSw; (try dsimp only at hSw); go_simp; try (with_reducible rfl)
        try simp only [Act.put, List.setIfInBounds_toArray, List.set_cons_zero, List.set_cons_succ]
        refine GoE.take (i := 2) (v := ?_) rfl (by decide) (by kernel_rfl) (by kernel_rfl) (by kernel_rfl) (by kernel_rfl) (fun _ _ _ h => h) (by rfl) ?_ (by assumption) ?_
        rotate_left
        · intro w hSw; (try dsimp only at hSw); go_simp; try (with_reducible rfl)
        try simp only [Act.put, List.setIfInBounds_toArray, List.set_cons_zero, List.set_cons_succ]
        refine GoE.take (i := 3) (v := ?_) rfl (by decide) (by kernel_rfl) (by kernel_rfl) (by kernel_rfl) (by kernel_rfl) (fun _ _ _ h => h) (by rfl) ?_ (by assumption) ?_
        rotate_left
        · intro w hSw; (try dsimp only at hSw); go_simp; try (with_reducible rfl)
        try simp only [Act.put, List.setIfInBounds_toArray, List.set_cons_zero, List.set_cons_succ]
        refine GoE.take (i := 4) (v := ?_) rfl (by decide) (by kernel_rfl) (by kernel_rfl) (by kernel_rfl) (by kernel_rfl) (fun _ _ _ h => h) (by rfl) ?_ (by assumption) ?_
        rotate_left
        · intro w hSw; (try dsimp only at hSw); go_simp; try (with_reducible rfl)
        try simp only [Act.put, List.setIfInBounds_toArray, List.set_cons_zero, List.set_cons_succ]
        refine GoE.take (i := 5) (v := ?_) rfl (by decide) (by kernel_rfl) (by kernel_rfl) (by kernel_rfl) (by kernel_rfl) (fun _ _ _ h => h) (by rfl) ?_ (by assumption) ?_
        rotate_left
        · intro w hSw; (try dsimp only at hSw); go_simp; try (with_reducible rfl)
        try simp only [Act.put, List.setIfInBounds_toArray, List.set_cons_zero, List.set_cons_succ]
        refine GoE.take (i := 6) (v := ?_) rfl (by decide) (by kernel_rfl) (by kernel_rfl) (by kernel_rfl) (by kernel_rfl) (fun _ _ _ h => h) (by rfl) ?_ (by assumption) ?_
        rotate_left
        · intro w hSw; (try dsimp only at hSw); go_simp; try (with_reducible rfl)
        try simp only [Act.put, List.setIfInBounds_toArray, List.set_cons_zero, List.set_cons_succ]
        refine GoE.take (i := 7) (v := ?_) rfl (by decide) (by kernel_rfl) (by kernel_rfl) (by kernel_rfl) (by kernel_rfl) (fun _ _ _ h => h) (by rfl) ?_ (by assumption) ?_
        rotate_left
        · intro w hSw; (try dsimp only at hSw); go_simp; try (with_reducible rfl)
        try simp only [Act.put, List.setIfInBounds_toArray, List.set_cons_zero, List.set_cons_succ]
        refine GoE.take (i := 8) (v := ?_) rfl (by decide) (by kernel_rfl) (by kernel_rfl) (by kernel_rfl) (by kernel_rfl) (fun _ _ _ h => h) (by rfl) ?_ (by assumption) ?_
        rotate_left
        · intro w hSw; (try dsimp only at hSw); go_simp; try (with_reducible rfl)
        try simp only [Act.put, List.setIfInBounds_toArray, List.set_cons_zero, List.set_cons_succ]
        refine GoE.take (i := 9) (v := ?_) rfl (by decide) (by kernel_rfl) (by kernel_rfl) (by kernel_rfl) (by kernel_rfl) (fun _ _ _ h => h) (by rfl) ?_ (by assumption) ?_
        rotate_left
        · intro w hSw; (try dsimp only at hSw); go_simp; try (with_reducible rfl)
        try simp only [Act.put, List.setIfInBounds_toArray, List.set_cons_zero, List.set_cons_succ]
        refine GoE.one (i := 10) rfl (by kernel_rfl) (fun K hK => ?_)
        go_simp
        refine hK.out _ _ (fun h => absurd rfl h) ?_
        clear hK K
        try simp only [Act.put, List.setIfInBounds_toArray, List.set_cons_zero, List.set_cons_succ]
        refine GoE.done (by kernel_rfl) ?_
        rw [Hz.out]
        go_wp2
        go_roundw
        case rel => exact ⟨i + 1, by omega, by go_num, SatL.tail (sat_drew.2 hb)⟩
        case measure => simp [intOf]; omega
    · obtain rfl : i = N := by omega
      go_wp2
      go_ret
      exact Ret.mk ⟨rfl, hs.tail.tail⟩
end Go.Proofs.Ytjjiljijcigekaa
