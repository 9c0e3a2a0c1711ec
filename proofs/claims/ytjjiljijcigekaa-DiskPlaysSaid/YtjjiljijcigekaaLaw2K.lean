/- known of chapter 2's statements. No condition. -/
import Derived.Test.YtjjiljijcigekaaLaw2B
namespace Go.Proofs.Ytjjiljijcigekaa
set_option linter.unusedVariables false
set_option linter.unusedSimpArgs false
open Go.RowKit
theorem dirtyN_one {s : Dsk} {i : Nat} (hi : i < s.n) (h : ∀ j, s.V j ≠ [] ↔ j = i) : s.dirtyN = [i] := by
  refine List.perm_singleton.1 ((List.perm_ext_iff_of_nodup ?_ (by simp : [i].Nodup)).2 fun j => ?_)
  · unfold Dsk.dirtyN; exact List.nodup_range.filter _
  · unfold Dsk.dirtyN
    rw [List.mem_filter, List.mem_range, Bool.not_eq_true', List.isEmpty_eq_false_iff, List.mem_singleton, h j]
    constructor
    · exact fun e => e.2
    · exact fun e => ⟨by omega, e⟩
theorem read_one (s : Dsk) (p : Nat) : s.read p 1 = s.cur p := by rw [read_snoc, read_nil, List.nil_append, Nat.add_zero]
theorem put_V (s : Dsk) (i : Nat) (r : List UInt8) (j : Nat) : (s.put i r).V j = if j = i then s.V i ++ [r] else s.V j := rfl
theorem put_le {s : Dsk} {k m p : Nat} {r : List UInt8} (h : ∀ i, (s.V i).length ≤ k) (hm : k + 1 ≤ m) : ∀ i, ((s.put p r).V i).length ≤ m := by
  intro i
  rw [put_V]
  split
  · rw [List.length_append, List.length_singleton]; have := h p; omega
  · have := h i; omega
theorem new_le (n : Nat) : ∀ i, ((Dsk.new n).V i).length ≤ 0 := fun i => Nat.le_refl 0
theorem known_dirty (B1 B2 : List UInt8) : (((Dsk.new 8).put 3 B1).put 3 B2).dirtyN = [3] := by
  refine dirtyN_one (show 3 < 8 by omega) fun j => ?_
  rw [put_V, put_V, put_V]
  by_cases hj : j = 3
  · rw [if_pos hj, if_pos rfl]; simp [hj]
  · rw [if_neg hj, if_neg hj]
    exact ⟨fun h => absurd rfl h, fun h => absurd h hj⟩
theorem known_read (B1 B2 : List UInt8) : ((((Dsk.new 8).put 3 B1).put 3 B2).crash 1 (fun _ => 1)).read 3 1 = B1 := by
  rw [read_one]
  show (((Dsk.new 8).put 3 B1).put 3 B2).cp 1 (fun _ => 1) _ 3 = B1
  rw [known_dirty]
  show (if _ then _ else _) = _
  have hV : (((Dsk.new 8).put 3 B1).put 3 B2).V 3 = [B1, B2] := rfl
  rw [known_dirty, hV, if_pos]
  · rfl
  · exact ⟨rfl, by show pickN 1 (fun _ => 1) 0 2 ≠ 0; decide⟩
section
variable {w : World} {L : List HP} {db : Nat} {s : Dsk}
theorem SlB.gives {T : Nat} {v : Value} {l : List UInt8} : Gives (SlB T v l :: L) (RdB v l) := fun w h => SlB.rd h
theorem gives_int1 {nb T : Nat} {z : Int} : Gives (cl nb T #[.int .i64 z] :: L) (fun w' => IsRow w' 1 (some ⟨nb, 0, none⟩) 1 (fun _ => [.int .i64 z])) := by
  intro w' h
  refine ⟨by omega, fun _ => ⟨nb, 0, rfl, fun i hi => ⟨rfl, fun j v hv => ?_⟩⟩⟩
  obtain rfl : i = 0 := by omega
  cases j with
  | zero => simp at hv; subst hv; exact SatL.cell h (i := 0) rfl
  | succ j => simp at hv
set_option maxRecDepth 100000 in
set_option maxHeartbeats 4000000 in
theorem known_ok (h : SatL w L) : Calls Try.prog 8 #[] w (Ret fun r w' => r = .bool true ∧ SatL w' L) := by
  have hnew := new_ok (n := 8) (by omega) h
  have hb1 := fun (w' : World) (L' : List HP) (h : SatL w' L') => block_ok (b := 1) (by omega) h
  have hb2 := fun (w' : World) (L' : List HP) (h : SatL w' L') => block_ok (b := 2) (by omega) h
  rw [show ((8 : Nat) : Int) = 8 from rfl] at hnew
  rw [show ((1 : Nat) : Int) = 1 from rfl] at hb1
  rw [show ((2 : Nat) : Int) = 2 from rfl] at hb2
  have hl1 : (blockB 1).length = 512 := blkN_len 512 1
  have hl2 : (blockB 2).length = 512 := blkN_len 512 2
  generalize blockB 1 = B1 at *
  generalize blockB 2 = B2 at *
  have hw1 := fun (w' : World) (db : Nat) (va : Option Addr) (vn vc : Nat) (L' : List HP) (h : SatL w' (DskR db (Dsk.new 8) :: L')) (g : Gives L' (RdB (.slice va vn vc) B1)) => write1_ok (p := 3) hl1 (by show 3 < 8; omega) (fun i => Nat.le_trans (new_le 8 i) (by omega)) h g
  have hw2 := fun (w' : World) (db : Nat) (va : Option Addr) (vn vc : Nat) (L' : List HP) (h : SatL w' (DskR db ((Dsk.new 8).put 3 B1) :: L')) (g : Gives L' (RdB (.slice va vn vc) B2)) => write1_ok (p := 3) hl2 (by show 3 < 8; omega) (put_le (new_le 8) (by omega)) h g
  have hcr := fun (w' : World) (db nb T : Nat) (L' : List HP) (h : SatL w' (DskR db (((Dsk.new 8).put 3 B1).put 3 B2) :: cl nb T #[.int .i64 1] :: L')) => crash_ok (c := 1) (fun i _ => by omega) (put_le (k := 1) (put_le (new_le 8) (by omega)) (by omega)) h gives_int1
  have hrd := fun (w' : World) (db : Nat) (L' : List HP) (h : SatL w' (DskR db ((((Dsk.new 8).put 3 B1).put 3 B2).crash 1 (fun _ => 1)) :: L')) => read_ok (p := 3) (n := 1) (by omega) (by show 3 + 1 ≤ 8; omega) (fun i => by show ([] : List (List UInt8)).length ≤ _; simp) h
  rw [show ((3 : Nat) : Int) = 3 from rfl] at hw1 hw2 hrd
  rw [known_dirty] at hcr
  rw [known_read, show ((1 : Nat) : Int) = 1 from rfl] at hrd
  generalize (((Dsk.new 8).put 3 B1).put 3 B2).crash 1 (fun _ => 1) = s3 at *
  generalize ((Dsk.new 8).put 3 B1).put 3 B2 = s2 at *
  generalize (Dsk.new 8).put 3 B1 = s1 at *
  generalize Dsk.new 8 = s0 at *
  have Hb1 := hid hb1
  have Hb2 := hid hb2
  have Hw1 := hid hw1
  have Hw2 := hid hw2
  have Hcr := hid hcr
  have Hrd := hid hrd
  clear hb1 hb2 hw1 hw2 hcr hrd h hl1 hl2
  go_enter Try.func8, Try.ntmps8
  go_wp2_with (first
    | (go_at_call 9; (with_reducible refine hnew.mono ?_); rintro e w1 ⟨v, rfl, db, rfl, h1⟩)
    | (go_at_call 12; (with_reducible refine (Hb1.out _ _ h1).mono ?_); rintro e w2 ⟨v, rfl, va, vc, rfl, v1, h2⟩; clear h1)
    | (go_at_call 12; (with_reducible refine (Hb2.out _ _ h3).mono ?_); rintro e w4 ⟨v, rfl, ua, uc, rfl, u1, h4⟩; clear h3)
    | (go_at_call 10; (with_reducible refine (Hw1.out _ _ _ _ _ _ h2.swap SlB.gives).mono ?_); rintro e w3 ⟨v, rfl, rfl, h3a⟩; have h3 := SatL.tail h3a.swap; clear h2 h3a)
    | (go_at_call 10; (with_reducible refine (Hw2.out _ _ _ _ _ _ h4.swap SlB.gives).mono ?_); rintro e w5 ⟨v, rfl, rfl, h5a⟩; have h5 := SatL.tail h5a.swap; clear h4 h5a; have h6 := h5.alloc (.cells #[.int .i64 1] 3))
    | (go_at_call 17; (with_reducible refine (Hcr.out _ _ _ _ _ h6.swap).mono ?_); rintro e w7 ⟨v, rfl, rfl, h7a⟩; have h7 := SatL.tail h7a.swap; clear h5 h6 h7a)
    | (go_at_call 13; (with_reducible refine (Hrd.out _ _ _ h7).mono ?_); rintro e w8 ⟨v, rfl, rv, rfl, h8⟩))
  have hd := sat_drew.2 h8
  have S0 := RdB.conv (SlB.rd hd)
  refine GoE.start (fun w' => (convert 33 9 rv).run Try.prog w' = .ok (.string ⟨B1.toArray⟩) w') 13 14 rfl (by kernel_rfl) ?_
  refine GoE.take (i := 0) (v := ?_) rfl (by decide) (by kernel_rfl) (by kernel_rfl) (by kernel_rfl) (by kernel_rfl) (fun _ _ _ h => h) (by rfl) ?_ (by assumption) ?_
  rotate_left
  · intro w hSw; (try dsimp only at hSw); go_simp; try (with_reducible rfl)
  try simp only [Act.put, List.setIfInBounds_toArray, List.set_cons_zero, List.set_cons_succ]
  refine GoE.take (i := 1) (v := ?_) rfl (by decide) (by kernel_rfl) (by kernel_rfl) (by kernel_rfl) (by kernel_rfl) (fun _ _ _ h => h) (by rfl) ?_ (by assumption) ?_
  rotate_left
  · intro w hSw; (try dsimp only at hSw); go_simp; try (with_reducible rfl)
  try simp only [Act.put, List.setIfInBounds_toArray, List.set_cons_zero, List.set_cons_succ]
  refine GoE.take (i := 2) (v := ?_) rfl (by decide) (by kernel_rfl) (by kernel_rfl) (by kernel_rfl) (by kernel_rfl) (fun _ _ _ h => h) (by rfl) ?_ (by assumption) ?_
  rotate_left
  · intro w hSw; (try dsimp only at hSw); go_simp; try (with_reducible rfl)
  try simp only [Act.put, List.setIfInBounds_toArray, List.set_cons_zero, List.set_cons_succ]
  refine GoE.take (i := 3) (v := ?_) rfl (by decide) (by kernel_rfl) (by kernel_rfl) (by kernel_rfl) (by kernel_rfl) (fun _ _ _ h => h) (by rfl) ?_ (by assumption) ?_
  rotate_left
  · intro w hSw; (try dsimp only at hSw); go_simp; try (with_reducible rfl)
  try simp only [Act.put, List.setIfInBounds_toArray, List.set_cons_zero, List.set_cons_succ]
  refine GoE.take (i := 4) (v := ?_) rfl (by decide) (by kernel_rfl) (by kernel_rfl) (by kernel_rfl) (by kernel_rfl) (fun _ _ _ h => h) (by rfl) ?_ (by assumption) ?_
  rotate_left
  · intro w hSw; (try dsimp only at hSw); go_simp; try (with_reducible rfl)
  try simp only [Act.put, List.setIfInBounds_toArray, List.set_cons_zero, List.set_cons_succ]
  refine GoE.take (i := 5) (v := ?_) rfl (by decide) (by kernel_rfl) (by kernel_rfl) (by kernel_rfl) (by kernel_rfl) (fun _ _ _ h => h) (by rfl) ?_ (by assumption) ?_
  rotate_left
  · intro w hSw; (try dsimp only at hSw); go_simp; try (with_reducible rfl)
  try simp only [Act.put, List.setIfInBounds_toArray, List.set_cons_zero, List.set_cons_succ]
  refine GoE.take (i := 6) (v := ?_) rfl (by decide) (by kernel_rfl) (by kernel_rfl) (by kernel_rfl) (by kernel_rfl) (fun _ _ _ h => h) (by rfl) ?_ (by assumption) ?_
  rotate_left
  · intro w hSw; (try dsimp only at hSw); go_simp; try (with_reducible rfl)
  try simp only [Act.put, List.setIfInBounds_toArray, List.set_cons_zero, List.set_cons_succ]
  refine GoE.take (i := 7) (v := ?_) rfl (by decide) (by kernel_rfl) (by kernel_rfl) (by kernel_rfl) (by kernel_rfl) (fun _ _ _ h => h) (by rfl) ?_ (by assumption) ?_
  rotate_left
  · intro w hSw; (try dsimp only at hSw); go_simp; try (with_reducible rfl)
  try simp only [Act.put, List.setIfInBounds_toArray, List.set_cons_zero, List.set_cons_succ]
  refine GoE.take (i := 8) (v := ?_) rfl (by decide) (by kernel_rfl) (by kernel_rfl) (by kernel_rfl) (by kernel_rfl) (fun _ _ _ h => h) (by rfl) ?_ (by assumption) ?_
  rotate_left
  · intro w hSw; (try dsimp only at hSw); go_simp; try (with_reducible rfl)
  try simp only [Act.put, List.setIfInBounds_toArray, List.set_cons_zero, List.set_cons_succ]
  refine GoE.one (i := 9) rfl (by kernel_rfl) (fun K hK => ?_)
  go_simp
  go_at_call 12
  (with_reducible refine (Hb1.out _ _ hd).mono ?_)
  rintro e w9 ⟨v9, rfl, xa, xc, rfl, x1, h9⟩
  have S1 := RdB.conv (SlB.rd (h9.pull 1 : SatL w9 (SlB _ _ _ :: _)))
  have S2 := RdB.conv (SlB.rd h9)
  go_wp2_with fail
  refine hK.out _ _ (fun _ => S1) ?_
  clear hK K
  try simp only [Act.put, List.setIfInBounds_toArray, List.set_cons_zero, List.set_cons_succ]
  refine GoE.more (fun w' => (convert 33 9 rv).run Try.prog w' = .ok (.string ⟨B1.toArray⟩) w' ∧ (convert 33 9 (.slice xa 512 xc)).run Try.prog w' = .ok (.string ⟨B1.toArray⟩) w') (fun w h => h.1) ?_
  have S3 := And.intro S1 S2
  refine GoE.take (i := 10) (v := ?_) rfl (by decide) (by kernel_rfl) (by kernel_rfl) (by kernel_rfl) (by kernel_rfl) (fun _ _ _ h => h) (by rfl) ?_ (by assumption) ?_
  rotate_left
  · intro w hSw; (try dsimp only at hSw); go_simp; try (with_reducible rfl)
  try simp only [Act.put, List.setIfInBounds_toArray, List.set_cons_zero, List.set_cons_succ]
  refine GoE.take (i := 11) (v := ?_) rfl (by decide) (by kernel_rfl) (by kernel_rfl) (by kernel_rfl) (by kernel_rfl) (fun _ _ _ h => h) (by rfl) ?_ (by assumption) ?_
  rotate_left
  · intro w hSw; (try dsimp only at hSw); go_simp; try (with_reducible rfl)
  try simp only [Act.put, List.setIfInBounds_toArray, List.set_cons_zero, List.set_cons_succ]
  refine GoE.take (i := 12) (v := ?_) rfl (by decide) (by kernel_rfl) (by kernel_rfl) (by kernel_rfl) (by kernel_rfl) (fun _ _ _ h => h) (by rfl) ?_ (by assumption) ?_
  rotate_left
  · intro w hSw; (try dsimp only at hSw); go_simp; try (with_reducible rfl)
  try simp only [Act.put, List.setIfInBounds_toArray, List.set_cons_zero, List.set_cons_succ]
  refine GoE.one (i := 13) rfl (by kernel_rfl) (fun K hK => ?_)
  go_simp
  refine hK.out _ _ (fun h => absurd rfl h) ?_
  clear hK K
  try simp only [Act.put, List.setIfInBounds_toArray, List.set_cons_zero, List.set_cons_succ]
  refine GoE.done (by kernel_rfl) ?_
  go_wp2
  go_ret
  exact Ret.mk ⟨rfl, h9.tail.tail.tail⟩
end
end Go.Proofs.Ytjjiljijcigekaa
