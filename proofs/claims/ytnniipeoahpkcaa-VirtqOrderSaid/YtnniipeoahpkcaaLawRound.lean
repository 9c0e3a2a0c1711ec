/- VirtqRound: through any number of chains nothing is lost. No condition. -/
import Derived.Test.YtnniipeoahpkcaaVqK
namespace Go.Proofs.Ytnniipeoahpkcaa
set_option linter.unusedVariables false
set_option linter.unusedSimpArgs false
open Go.RowKit
theorem leN_zero : ∀ n, leN (List.replicate n 0) = 0
  | 0 => rfl
  | n + 1 => by show (0 : UInt8).toNat + 256 * leN (List.replicate n 0) = 0; rw [leN_zero n]; rfl
theorem lzero_all (z : Nat) : lzero (List.replicate z 0) 0 z = List.replicate z 0 := by
  unfold lzero; simp
theorem lget_zero (z a k : Nat) : lget (List.replicate z 0) a k = 0 := by
  unfold lget; rw [List.drop_replicate, List.take_replicate]; exact leN_zero _
theorem inv_new {n : Nat} : Inv n 0 (Dr.new 0 n) ⟨0, n, 0, 0⟩ (List.replicate (qs n) 0) :=
  ⟨rfl, rfl, rfl, rfl, List.length_replicate, lget_zero _ _ _, lget_zero _ _ _⟩
theorem Inv.dok {n i : Nat} {d : Dr} {r : Ring} {m : List UInt8} (h : Inv n i d r m) (hp : pow2 n = true) : DrOk d m.length ∧ RgOk r m.length := by
  obtain ⟨e1, e2, e3, e4, e5, _, _⟩ := h
  refine ⟨⟨?_, ?_, ?_⟩, ?_⟩
  · rw [e1]; exact ⟨hp, by show 0 + qs n ≤ _; omega, Nat.mod_lt _ (by omega), Nat.mod_lt _ (by omega)⟩
  · rw [e1, e2]; exact List.length_replicate
  · rw [e3]; intro k c h; cases h
  · rw [e4]; exact ⟨hp, by show 0 + qs n ≤ _; omega, Nat.mod_lt _ (by omega), Nat.mod_lt _ (by omega)⟩
theorem pow_two6 {k : Nat} (h : k < 6) : ∃ n : Nat, wrap64 ((2 : Int) ^ k) = (n : Int) ∧ pow2 n = true ∧ n ≤ 32 := by
  rcases (by omega : k = 0 ∨ k = 1 ∨ k = 2 ∨ k = 3 ∨ k = 4 ∨ k = 5) with rfl | rfl | rfl | rfl | rfl | rfl
  · exact ⟨1, by decide +kernel, by decide, by omega⟩
  · exact ⟨2, by decide +kernel, by decide, by omega⟩
  · exact ⟨4, by decide +kernel, by decide, by omega⟩
  · exact ⟨8, by decide +kernel, by decide, by omega⟩
  · exact ⟨16, by decide +kernel, by decide, by omega⟩
  · exact ⟨32, by decide +kernel, by decide, by omega⟩
/-- one round's calls, as they come to pass -/
structure RndC (db vb mb n i z : Nat) (d : Dr) (r : Ring) (m : List UInt8) : Prop where
  add : ∀ (w' : World) (nb : Nat) (L' : List HP), SatL w' (DrvR db mb 0 d :: SlB 5 (.slice (some ⟨mb, 0, none⟩) z z) m :: cl nb 36 #[.int .i64 i, .int .i64 1, .bool false] :: L') →
    Calls Try.prog 12 #[.pointer (some ⟨db, 0, none⟩), .slice (some ⟨nb, 0, none⟩) 1 1] w' (Ret fun v w'' => v = .tuple #[.int .i64 0, .int .i64 0] ∧ SatL w'' (DrvR db mb 0 (rnd d r m i).a.d :: SlB 5 (.slice (some ⟨mb, 0, none⟩) z z) (rnd d r m i).a.m :: L'))
  take : ∀ (w' : World) (L' : List HP), SatL w' (DevR vb mb 0 r :: SlB 5 (.slice (some ⟨mb, 0, none⟩) z z) (rnd d r m i).a.m :: L') →
    Calls Try.prog 13 #[.pointer (some ⟨vb, 0, none⟩)] w' (Ret fun v w'' => ∃ b c off, v = .tuple #[.int .i64 0, .slice (some ⟨b, off, none⟩) 1 c, .int .i64 0] ∧ 1 ≤ c ∧ c ≤ 9223372036854775807 ∧ SatL w'' (SlK 36 3 (.slice (some ⟨b, off, none⟩) 1 c) 1 [.int .i64 i, .int .i64 1, .bool false] :: DevR vb mb 0 (rnd d r m i).t.2 :: SlB 5 (.slice (some ⟨mb, 0, none⟩) z z) (rnd d r m i).a.m :: L'))
  give : ∀ (w' : World) (L' : List HP), SatL w' (DevR vb mb 0 (rnd d r m i).t.2 :: SlB 5 (.slice (some ⟨mb, 0, none⟩) z z) (rnd d r m i).a.m :: L') →
    Calls Try.prog 14 #[.pointer (some ⟨vb, 0, none⟩), .int .i64 0, .int .i64 1] w' (Ret fun v w'' => v = .int .i64 0 ∧ SatL w'' (DevR vb mb 0 (rnd d r m i).g.r :: SlB 5 (.slice (some ⟨mb, 0, none⟩) z z) (rnd d r m i).g.m :: L'))
  used : ∀ (w' : World) (L' : List HP), SatL w' (DrvR db mb 0 (rnd d r m i).a.d :: SlB 5 (.slice (some ⟨mb, 0, none⟩) z z) (rnd d r m i).g.m :: L') →
    Calls Try.prog 15 #[.pointer (some ⟨db, 0, none⟩)] w' (Ret fun v w'' => ∃ x : Nat, v = .tuple #[.int .i64 0, .int .i64 x, .int .i64 0] ∧ SatL w'' (DrvR db mb 0 (rnd d r m i).u.d :: SlB 5 (.slice (some ⟨mb, 0, none⟩) z z) (rnd d r m i).g.m :: L'))
  inv : Inv n (i + 1) (rnd d r m i).u.d (rnd d r m i).g.r (rnd d r m i).g.m
theorem rndC {db vb mb n i z : Nat} {d : Dr} {r : Ring} {m : List UInt8} (hp : pow2 n = true) (hi : i < 4611686018427387904) (h : Inv n i d r m) : RndC db vb mb n i z d r m := by
  have hn := pow2_le hp
  obtain ⟨f1, f2, f3, f4, f5, f6, f7⟩ := rnd_inv hn hi h
  obtain ⟨ok1, ok2⟩ := h.dok hp
  have hmb : m.length ≤ 1000000 := by rw [h.ml]; unfold qs; omega
  have hA := add_keeps (l := [⟨i, 1, false⟩]) ok1
  have hAm : (rnd d r m i).a.m.length = m.length := hA.2
  have hA1 : DrOk (rnd d r m i).a.d m.length := hA.1
  have hT : RgOk (rnd d r m i).t.2 m.length := take_keeps ok2
  have hhd : (rnd d r m i).t.1.head = 0 := by rw [f3]
  have hG : (rnd d r m i).g = (rnd d r m i).t.2.give (rnd d r m i).a.m ((0 : Nat) : Int) 1 := by
    show (rnd d r m i).t.2.give (rnd d r m i).a.m (((rnd d r m i).t.1.head : Nat) : Int) 1 = _
    rw [hhd]
  have hGm : (rnd d r m i).g.m.length = m.length := by
    rw [hG]; exact (give_keeps (by rw [hAm]; exact hT)).2.trans hAm
  refine ⟨fun w' nb L' hs => ?_, fun w' L' hs => ?_, fun w' L' hs => ?_, fun w' L' hs => ?_, f7⟩
  · have k : Calls Try.prog 12 #[.pointer (some ⟨db, 0, none⟩), .slice (some ⟨nb, 0, none⟩) 1 1] w' _ := add_ok (l := [⟨i, 1, false⟩]) (cc := 1) ok1 hmb hs (by intro x hx; simp at hx; subst hx; show (i : Int) ≤ _; omega) (brow_cl (l := [⟨i, 1, false⟩]) (by rw [List.length_singleton]; omega))
    refine k.mono ?_
    rintro e w2 ⟨v, rfl, rfl, h2⟩
    have e1 : (d.add m [⟨i, 1, false⟩]).h = 0 := f2
    have e2 : (d.add m [⟨i, 1, false⟩]).e = 0 := f1
    exact Ret.mk ⟨by rw [e1, e2]; rfl, SatL.tail (h2.bring [2, 0, 1])⟩
  · refine (take_ok (by rw [hAm]; exact ok2) (by rw [hAm]; exact hmb) hs).mono ?_
    rintro e w2 ⟨v, rfl, lv, rfl, h2⟩
    have h3 : SatL w2 (BufR lv (rnd d r m i).t.1.l :: DevR vb mb 0 (rnd d r m i).t.2 :: SlB 5 (.slice (some ⟨mb, 0, none⟩) z z) (rnd d r m i).a.m :: L') := h2
    have e1 : (r.take (rnd d r m i).a.m).1.head = 0 := by show (rnd d r m i).t.1.head = 0; rw [f3]
    have e2 : (r.take (rnd d r m i).a.m).1.e = 0 := by show (rnd d r m i).t.1.e = 0; rw [f3]
    rw [f3] at h3
    have h4 : SatL w2 (SlK 36 3 lv 1 [.int .i64 i, .int .i64 1, .bool false] :: DevR vb mb 0 (rnd d r m i).t.2 :: SlB 5 (.slice (some ⟨mb, 0, none⟩) z z) (rnd d r m i).a.m :: L') := h3
    rcases SlK.form h4 with ⟨_, h0, _⟩ | ⟨b, off, cc, rfl, c1, c2, _⟩
    · omega
    · exact Ret.mk ⟨b, cc, off, by rw [e1, e2]; rfl, c1, by unfold maxLen at c2; omega, h4⟩
  · refine (give_ok (h := ((0 : Nat) : Int)) (l := 1) (by rw [hAm]; exact hT) (by omega) hs).mono ?_
    rintro e w2 ⟨v, rfl, rfl, h2⟩
    rw [← hG] at h2 ⊢
    exact Ret.mk ⟨by rw [f4], h2⟩
  · refine (used_ok (by rw [hGm]; exact hA1) hs).mono ?_
    rintro e w2 ⟨v, rfl, rfl, h2⟩
    have e1 : ((rnd d r m i).a.d.used (rnd d r m i).g.m).h = 0 := f6
    have e3 : ((rnd d r m i).a.d.used (rnd d r m i).g.m).e = 0 := f5
    exact Ret.mk ⟨_, by rw [e1, e3]; rfl, h2⟩
set_option maxRecDepth 100000 in
set_option maxHeartbeats 8000000 in
theorem round_walk (a0 a1 : Int) (w : World) :
    Calls Try.prog 3 #[.int .i64 a0, .int .i64 a1] w (Ret fun v w' => v = .bool true ∧ SatL w' [old w]) := by
  have hk := known_ok (sat_old w)
  have hw1 := hid (fun (w : World) => within_ok a0 (n := 4) (by omega) w)
  have hw2 := hid (fun (w : World) => within_ok a1 (n := 65560) (by omega) w)
  have hb1 := wi_lt a0 (n := 4) (by omega)
  have hb2 := wi_lt a1 (n := 65560) (by omega)
  simp only [show ((4 : Nat) : Int) = 4 from rfl] at hw1
  simp only [show ((65560 : Nat) : Int) = 65560 from rfl] at hw2
  generalize wi a0 4 = k at *
  generalize wi a1 65560 = R at *
  obtain ⟨n, hnk, hp, hn32⟩ := pow_two6 (k := k) (by omega)
  have hn := pow2_le hp
  have hq0 : qsize (n : Int) = qs n := by unfold qsize qs; rw [if_pos ⟨by omega, hp⟩]; rfl
  have hsz := hid (fun (w : World) => (by have := vsize_ok (n : Int) w; rw [hq0] at this; exact this : Calls Try.prog 9 #[.int .i64 n] w (Ret fun r w' => r = .int .i64 (qs n : Nat) ∧ w = w')))
  have hzb : qs n ≤ 10000 := by unfold qs; omega
  have hnd : Hid (∀ (w' : World) (mb : Nat) (L' : List HP), SatL w' (SlB 5 (.slice (some ⟨mb, 0, none⟩) (qs n) (qs n)) (List.replicate (qs n) 0) :: L') →
      Calls Try.prog 10 #[.slice (some ⟨mb, 0, none⟩) (qs n) (qs n), .int .i64 0, .int .i64 n] w' (Ret fun r w'' => ∃ db, r = .tuple #[.pointer (some ⟨db, 0, none⟩), .int .i64 0] ∧ SatL w'' (DrvR db mb 0 (Dr.new 0 n) :: SlB 5 (.slice (some ⟨mb, 0, none⟩) (qs n) (qs n)) (List.replicate (qs n) 0) :: L'))) :=
    hid (fun w' mb L' h => by
      have := newdrv_ok (base := 0) (n := n) hp (by rw [List.length_replicate]; omega) (by rw [List.length_replicate]; omega) h
      rw [lzero_all] at this; exact this)
  have hnv : Hid (∀ (w' : World) (mb : Nat) (L' : List HP), SatL w' L' →
      Calls Try.prog 11 #[.slice (some ⟨mb, 0, none⟩) (qs n) (qs n), .int .i64 0, .int .i64 n] w' (Ret fun r w'' => ∃ vb, r = .tuple #[.pointer (some ⟨vb, 0, none⟩), .int .i64 0] ∧ SatL w'' (DevR vb mb 0 ⟨0, n, 0, 0⟩ :: L'))) :=
    hid (fun w' mb L' h => newdev_ok (base := 0) (n := n) hp (by omega) (by omega) (Nat.le_refl _) h)
  have Hinv := hid (inv_new (n := n))
  have hbz := hid (bvs_zeros (qs n))
  have hrc := hid (fun (db vb mb i z : Nat) (d : Dr) (r : Ring) (m : List UInt8) (hi : i < 4611686018427387904) (h : Inv n i d r m) => rndC (db := db) (vb := vb) (mb := mb) (z := z) hp hi h)
  have hfin := hid (fun (w' : World) (db mb i : Nat) (d : Dr) (r : Ring) (m : List UInt8) (L' : List HP) (h : Inv n i d r m) (hs : SatL w' (DrvR db mb 0 d :: L')) => (by
    have := free_eq (h.dok hp).1 hs
    have hf : free d.busy = n := by rw [h.db]; unfold free; rw [List.countP_replicate]; rfl
    rw [hf] at this; exact this : Calls Try.prog 16 #[.pointer (some ⟨db, 0, none⟩)] w' (Ret fun v w'' => v = .int .i64 (n : Nat) ∧ w' = w'')))
  generalize qs n = z at *
  have Hp := hid hp
  clear hp hq0
  go_enter Try.func3, Try.ntmps3
  go_upto_region 4 with (first
    | (go_at_call 7; (with_reducible refine hk.mono ?_); rintro e w1 ⟨v, rfl, rfl, h1⟩)
    | (go_at_call 8; (with_reducible refine (hw1.out _).mono ?_); rintro e w2 ⟨v, rfl, rfl, rfl⟩))
  clear hk hw1
  rw [hnk]
  clear hnk
  go_wp2_with (first
    | (go_at_call 9; (with_reducible refine (hsz.out _).mono ?_); rintro e w2 ⟨v, rfl, rfl, rfl⟩)
    | (refine wpList_make_sl rfl (.tmp 26) (.tmp 26) rfl elem_byte z rfl rfl h1 (by omega) (by omega) ?_; intro w2 h2; rw [← hbz.out] at h2)
    | (go_at_call 10; (with_reducible refine (hnd.out _ _ _ h2).mono ?_); rintro e w3 ⟨v, rfl, db, rfl, h3⟩)
    | (go_at_call 11; (with_reducible refine (hnv.out _ _ _ h3).mono ?_); rintro e w4 ⟨v, rfl, vb, rfl, h4⟩))
  clear h1 h2 h3 hsz hnd hnv
  go_loopw [10] (fun x wr => ∃ (i : Nat) (d : Dr) (r : Ring) (m : List UInt8), i ≤ R ∧ x = .int .i64 i ∧ Inv n i d r m ∧ SatL wr (DrvR db w1.heap.size 0 d :: DevR vb w1.heap.size 0 r :: SlB 5 (.slice (some ⟨w1.heap.size, 0, none⟩) z z) m :: [old w])) (fun x _ => R - (intOf x).toNat)
  case atStart => exact ⟨0, _, _, _, by omega, rfl, Hinv.out, h4.bring [1, 0, 2]⟩
  case round =>
    clear h4 Hinv
    obtain ⟨i, d, r, m, hi, rfl, hI, hs⟩ := hrel
    by_cases hlt : i < R
    · have RC := hrc.out db vb w1.heap.size i z d r m (by omega) hI
      have hiz : (i : Int) < R := by omega
      have hiz2 : (i : Int) < 65560 := by omega
      have h5 := (hs.alloc (.cells #[.int .i64 i, .int .i64 1, .bool false] 36)).bring [1, 3, 0, 2]
      have q1 := RC.add _ _ _ h5
      have RC' := hid RC
      clear hs RC hI
      go_wp2_with (first
        | (go_at_call 8; (with_reducible refine (hw2.out _).mono ?_); rintro e w5 ⟨v, rfl, rfl, rfl⟩)
        | (go_at_call 12; (with_reducible refine q1.mono ?_); rintro e w6 ⟨v, rfl, rfl, h6⟩; have q2 := RC'.out.take _ _ (h6.bring [2, 1, 0, 3]))
        | (go_at_call 13; (with_reducible refine q2.mono ?_); rintro e w7 ⟨v, rfl, tb, tc, toff, rfl, tc1, tc2, h7⟩; have q3 := RC'.out.give _ _ (h7.bring [1, 2, 0, 3]))
        | (go_at_call 14; (with_reducible refine q3.mono ?_); rintro e w8 ⟨v, rfl, rfl, h8⟩; have q4 := RC'.out.used _ _ (h8.bring [3, 1, 0, 2]))
        | (go_at_call 15; (with_reducible refine q4.mono ?_); rintro e w9 ⟨v, rfl, ux, rfl, h9⟩; have ct := SlK.cell (h9.pull 3 : SatL _ (SlK _ _ _ _ _ :: _)) (i := 0) (x := .int .i64 (i : Int)) rfl; rw [Nat.add_zero] at ct))
      go_roundw
      case rel => exact ⟨i + 1, _, _, _, by omega, by go_num, RC'.out.inv, (SatL.tail (h9.bring [3, 0, 2, 1, 4])).bring [0, 1, 2]⟩
      case measure => simp [intOf]; omega
    · obtain rfl : i = R := by omega
      have q5 := hfin.out _ _ _ _ _ _ _ _ hI hs
      go_wp2_with (first
        | (go_at_call 8; (with_reducible refine (hw2.out _).mono ?_); rintro e w5 ⟨v, rfl, rfl, rfl⟩)
        | (go_at_call 16; (with_reducible refine q5.mono ?_); rintro e w6 ⟨v, rfl, rfl, rfl⟩))
      go_ret
      exact Ret.mk ⟨rfl, SatL.tail (SatL.tail (SatL.tail hs))⟩
end Go.Proofs.Ytnniipeoahpkcaa
