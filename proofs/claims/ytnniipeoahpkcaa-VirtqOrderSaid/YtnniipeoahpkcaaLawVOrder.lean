/- VirtqOrder: what is offered is taken in order, whole; what is given back is used in order; no descriptor is lost. No condition. -/
import Derived.Test.YtnniipeoahpkcaaVqT
import Derived.Test.YtnniipeoahpkcaaArg
namespace Go.Proofs.Ytnniipeoahpkcaa
set_option linter.unusedVariables false
set_option linter.unusedSimpArgs false
open Go.RowKit
def headsL (Q : List Ent) : List Nat := Q.map (·.head)
def pcsL (Q : List Ent) : List Nat := Q.flatMap fun e => [e.s, e.c.length]
theorem pcsL_len (Q : List Ent) : (pcsL Q).length = Q.length * 2 := by
  unfold pcsL
  induction Q with
  | nil => rfl
  | cons e Q ih => rw [List.flatMap_cons, List.length_append, ih]; simp; omega
/-- the first ones are let go -/
theorem Sl.pop {w : World} {l : List HP} {T b o N c p : Nat} {xs : List Value} (h : SatL w (Sl T (.slice (some ⟨b, o, none⟩) N c) xs :: l)) (hp : p ≤ N) : SatL w (Sl T (.slice (if c = p then some ⟨b, o, none⟩ else some ⟨b, o + p, none⟩) (N - p) (c - p)) (xs.drop p) :: l) := by
  obtain ⟨h1, h2, h3⟩ := Sl.lenEq h
  split
  · rename_i hc
    have hN : N = p := by omega
    have hx : xs.drop p = [] := List.drop_eq_nil_iff.2 (by omega)
    rw [hx, hN, hc, Nat.sub_self]
    exact Sl.ofK (SlK.empty (Sl.toK h h1.symm) (by omega))
  · have := Sl.slice h (i := p) (j := N) hp (Nat.le_refl _)
    rw [h1, List.take_length] at this
    rw [h1]
    exact this
set_option maxRecDepth 100000 in
set_option maxHeartbeats 16000000 in
theorem vorder_walk (a0 a1 : Int) (a2 : Option Addr) (l2 c2 : Nat) (A : Nat → Int) (w : World) (hA : IsRow w 1 a2 l2 (fun i => [.int .i64 (A i)])) :
    Calls Try.prog 6 #[.int .i64 a0, .int .i64 a1, .slice a2 l2 c2] w (Ret fun v w' => v = .bool true ∧ SatL w' [old w]) := by
  have hk := known_ok (sat_old w)
  have hw1 := hid (fun (w : World) => within_ok a0 (n := 6) (by omega) w)
  have hw2 := hid (fun (w : World) => within_ok a1 (n := 400) (by omega) w)
  have hb1 := wi_lt a0 (n := 6) (by omega)
  have hb2 := wi_lt a1 (n := 400) (by omega)
  simp only [show ((6 : Nat) : Int) = 6 from rfl] at hw1
  simp only [show ((400 : Nat) : Int) = 400 from rfl] at hw2
  generalize wi a0 6 = k0 at *
  generalize wi a1 400 = R at *
  obtain ⟨n, hnk, hp, hn32⟩ := pow_two6 (k := k0) (by omega)
  have hn := pow2_le hp
  have hq0 : qsize (n : Int) = qs n := by unfold qsize qs; rw [if_pos ⟨by omega, hp⟩]; rfl
  have hsz := hid (fun (w : World) => (by have := vsize_ok (n : Int) w; rw [hq0] at this; exact this : Calls Try.prog 9 #[.int .i64 n] w (Ret fun r w' => r = .int .i64 (qs n : Nat) ∧ w = w')))
  have hzb : qs n ≤ 10000 := by unfold qs; omega
  have hnd : Hid (∀ (w' : World) (mb : Nat) (L' : List HP), SatL w' (SlB 5 (.slice (some ⟨mb, 0, none⟩) (qs n) (qs n)) (List.replicate (qs n) 0) :: L') →
      Calls Try.prog 10 #[.slice (some ⟨mb, 0, none⟩) (qs n) (qs n), .int .i64 0, .int .i64 n] w' (Ret fun r w'' => ∃ db, r = .tuple #[.pointer (some ⟨db, 0, none⟩), .int .i64 0] ∧ SatL w'' (DrvR db mb 0 (Dr.new 0 n) :: SlB 5 (.slice (some ⟨mb, 0, none⟩) (qs n) (qs n)) (List.replicate (qs n) 0) :: L'))) :=
    hid (fun w' mb L' h => by
      have := newdrv_ok (base := 0) (n := n) hp (by rw [List.length_replicate]; omega) (by rw [List.length_replicate]; omega) h
      rw [lzero_all] at this; exact this)
  have hnv : Hid (∀ (w' : World) (mb : Nat) (L' : List HP), SatL w' L' →
      Calls Try.prog 11 #[.slice (some ⟨mb, 0, none⟩) (qs n) (qs n), .int .i64 0, .int .i64 n] w' (Ret fun r w'' => ∃ vb, r = .tuple #[.pointer (some ⟨vb, 0, none⟩), .int .i64 0] ∧ SatL w'' (DevR vb mb 0 ⟨0, n, 0, 0⟩ :: L'))) :=
    hid (fun w' mb L' h => newdev_ok (base := 0) (n := n) hp (by omega) (by omega) (Nat.le_refl _) h)
  have Hinv := hid (o_new (n := n) hp (fun a k => lget_zero (qs n) a k) List.length_replicate)
  have hbz := hid (bvs_zeros (qs n))
  have hrow := hid (fun (w' : World) (h : SatL w' [old w]) (h0 : 0 < l2) => (by
    obtain ⟨b, o, e, hx⟩ := hA.2 h0
    exact ⟨b, o, e, fun i hi => by have := h.oldCell ((hx i hi).2 0 _ rfl); rwa [Nat.mul_one, Nat.add_zero] at this⟩ : ∃ b o, a2 = some ⟨b, o, none⟩ ∧ ∀ i, i < l2 → w'.cell? ⟨b, o + i, none⟩ = some (.int .i64 (A i))))
  have hl2 := hA.1
  have hwn := hid (fun (w : World) (a : Int) => within_ok a (n := n) (by omega) w)
  have hwl := hid (fun (a : Int) => wi_lt a (n := n) (by omega))
  generalize qs n = z at *
  have Hp := hid hp
  have hnz : (n : Int) ≤ 32 := by omega
  have hn0 : ¬ (n : Int) = 0 := by omega
  have Hn := hid hn
  clear hp hq0 hA hn
  go_enter Try.func6, Try.ntmps6
  go_upto_region 4 with (first
    | (go_at_call 7; (with_reducible refine hk.mono ?_); rintro e w1 ⟨v, rfl, rfl, h1⟩)
    | (go_at_call 8; (with_reducible refine (hw1.out _).mono ?_); rintro e w2 ⟨v, rfl, rfl, rfl⟩))
  clear hk hw1
  rw [hnk]
  clear hnk
  go_wp2_with (first
    | (go_at_call 8; (with_reducible refine (hw2.out _).mono ?_); rintro e w2 ⟨v, rfl, rfl, rfl⟩)
    | (go_at_call 9; (with_reducible refine (hsz.out _).mono ?_); rintro e w2 ⟨v, rfl, rfl, rfl⟩)
    | (refine wpList_make_sl rfl (.tmp 39) (.tmp 39) rfl elem_byte z rfl rfl h1 (by omega) (by omega) ?_; intro w2 h2; rw [← hbz.out] at h2)
    | (go_at_call 10; (with_reducible refine (hnd.out _ _ _ h2).mono ?_); rintro e w3 ⟨v, rfl, db, rfl, h3⟩)
    | (go_at_call 11; (with_reducible refine (hnv.out _ _ _ h3).mono ?_); rintro e w4 ⟨v, rfl, vb, rfl, h4⟩))
  have h5 : SatL w4 (NatsL (.slice none 0 0) (headsL []) :: NatsL (.slice none 0 0) (pcsL []) :: DevR vb w1.heap.size 0 ⟨0, n, 0, 0⟩ :: DrvR db w1.heap.size 0 (Dr.new 0 n) :: SlB 5 (mvZ w1.heap.size z) (List.replicate z 0) :: [old w]) := Sl_nil (Sl_nil h4)
  have H5 := hid h5
  clear h1 h2 h3 h4 h5 hsz hnd hnv hw2 hbz
  go_loopw [13, 14, 15, 16] (fun hv pv sv x wr => ∃ (i cn s : Nat) (d : Dr) (r : Ring) (m : List UInt8) (Q : List Ent), i ≤ R ∧ x = .int .i64 i ∧ sv = .int .i64 s ∧ s ≤ 32 * i ∧ (∀ e ∈ Q, e.s + e.c.length ≤ s) ∧ OInv n d r m Q cn ∧
      SatL wr (NatsL hv (headsL Q) :: NatsL pv (pcsL Q) :: DevR vb w1.heap.size 0 r :: DrvR db w1.heap.size 0 d :: SlB 5 (mvZ w1.heap.size z) m :: [old w])) (fun _ _ _ x _ => R - (intOf x).toNat)
  case atStart => exact ⟨0, 0, 0, _, _, _, [], by omega, rfl, rfl, by omega, (fun e h => by simp at h), Hinv.out, H5.out⟩
  case round =>
    clear H5 Hinv
    obtain ⟨i, cn, s, d, r, m, Q, hi, rfl, rfl, hs0, hQs, hI, hs⟩ := hrel
    obtain ⟨ha, hc, rfl, ha1, ha2⟩ := Sl.valn hs (m := Q.length) (by unfold natV headsL; rw [List.length_map, List.length_map])
    obtain ⟨pa, pc, rfl, pa1, pa2⟩ := Sl.valn (hs.pull 1 : SatL wr (Sl _ _ _ :: _)) (m := Q.length * 2) (by unfold natV; rw [List.length_map, pcsL_len])
    by_cases hlt : i < R
    · have hiz : (i : Int) < R := by omega
      have hib : (i : Int) < 400 := by omega
      have Hs := hid hs
      have HI := hid hI
      have HQs := hid hQs
      have hsb : s ≤ 12800 := by omega
      have hsz' : (s : Int) ≤ 12800 := by omega
      clear hs hI hQs
      go_upto_if 74 with fail
      go_cut [17] from 74 to 84 (fun v wx => ∃ k : Nat, 1 ≤ k ∧ k ≤ n ∧ v = .int .i64 k ∧ wx = wr)
      case first =>
        by_cases h0 : 0 < l2
        · have h0z : (0 : Int) < l2 := by omega
          obtain ⟨b, o, rfl, hx⟩ := hrow.out wr Hs.out.tail.tail.tail.tail.tail h0
          obtain ⟨q, hq⟩ : ∃ q, q = i % l2 := ⟨_, rfl⟩
          have hql : q < l2 := by rw [hq]; exact Nat.mod_lt _ h0
          have ca := hx q hql
          clear hx
          have e1 : Int.tmod (i : Int) (l2 : Int) = (q : Int) := by rw [Int.tmod_eq_emod_of_nonneg (by omega), hq]; rfl
          have e2 : (i : Int) % (l2 : Int) = (q : Int) := by rw [hq]; rfl
          have hlz : ¬ (l2 : Int) = 0 := by omega
          have hlz0 : ¬ l2 = 0 := by omega
          have hqz : (q : Int) < l2 := by omega
          have q1 := hwn.out wr (A q)
          have q2 := hwl.out (A q)
          have w7 : IntKind.i64.wrap (q : Int) = (q : Int) := IntWalk.i64_in _ (by omega)
          clear hq
          generalize A q = aq at *
          generalize wi aq n = kk at *
          go_wp2_with (first
            | (go_at_call 8; (with_reducible refine q1.mono ?_); rintro e w2 ⟨v, rfl, rfl, rfl⟩))
          go_meet
          exact ⟨kk + 1, by omega, by omega, by go_num, rfl⟩
        · have h0z : ¬ (0 : Int) < l2 := by omega
          go_wp2
          go_meet
          exact ⟨1, by omega, by have := Hn.out; omega, rfl, rfl⟩
      case rest =>
      obtain ⟨k, hk1, hk2, rfl, rfl⟩ := hcut
      have hkz : (k : Int) ≤ 32 := by omega
      go_wp2
      go_loopw [18, 19] (fun lv x wr => ∃ j : Nat, j ≤ k ∧ x = .int .i64 j ∧ SatL wr (BufR lv (bufsOf s j) :: NatsL (.slice ha Q.length hc) (headsL Q) :: NatsL (.slice pa (Q.length * 2) pc) (pcsL Q) :: DevR vb w1.heap.size 0 r :: DrvR db w1.heap.size 0 d :: SlB 5 (mvZ w1.heap.size z) m :: [old w])) (fun _ x _ => k - (intOf x).toNat)
      case atStart => exact ⟨0, by omega, rfl, SlK_nil Hs.out⟩
      case round =>
        clear Hs
        obtain ⟨j, hj, rfl, hs⟩ := hrel
        have hs' : SatL wr (SlK 36 3 _ (bufsOf s j).length (bufV (bufsOf s j)) :: _) := hs
        rw [bufsOf_len] at hs'
        obtain ⟨la, lc, rfl, lc1, lc2⟩ := SlK.valn hs'
        by_cases hjk : j < k
        · have hjz : (j : Int) < k := by omega
          have hjz2 : (j : Int) < 32 := by omega
          obtain ⟨q, hq⟩ : ∃ q, q = j % 2 := ⟨_, rfl⟩
          have e1 : Int.tmod (j : Int) 2 = (q : Int) := by rw [Int.tmod_eq_emod_of_nonneg (by omega), hq]; rfl
          have e2 : (j : Int) % 2 = (q : Int) := by rw [hq]; rfl
          obtain ⟨wb, hwb⟩ : ∃ wb : Bool, wb = decide (j % 2 = 1) := ⟨_, rfl⟩
          have e3 : ((q : Int) == 1) = wb := by
            rw [hwb, ← hq]
            by_cases hx : q = 1
            · rw [hx]; rfl
            · have : q = 0 := by omega
              rw [this]; rfl
          have hsn := hid (show bufV (bufsOf s (j + 1)) = bufV (bufsOf s j) ++ [.int .i64 ((s + j : Nat) : Int), .int .i64 (j : Int), .bool wb] by rw [bufsOf_snoc, bufV_snoc, hwb]; rfl)
          rw [show ((s + j : Nat) : Int) = (s : Int) + (j : Int) by omega] at hsn
          have hs1 := hs'.alloc (.cells #[.int .i64 ((s : Int) + (j : Int)), .int .i64 (j : Int), .bool wb] 36)
          have hsrc := SrcOk.ofCl (n := 1) (k := 3) elem_buf.under hs1 rfl 1
          have hK := SatL.swap hs1
          have hone := hid (show ∀ y ∈ #[Value.int .i64 ((s : Int) + (j : Int)), .int .i64 (j : Int), .bool wb].toList, y.oneCell' = true by intro y hy; simp at hy; rcases hy with rfl | rfl | rfl <;> rfl)
          have b1 : (j + 1) * 24 ≤ 140737488355328 := by omega
          have b2 : j + 1 ≤ maxLen := by unfold maxLen; omega
          clear hwb hq hs hs'
          go_wp2_with (first
            | (at_builtin; refine wpList_append_sl rfl (.tmp 90) (.tmp 99) rfl elem_buf rfl hK rfl hsrc hone.out b1 b2 ?_; intro v9 w9 h9 _; have h10 := SatL.tail h9.swap; rw [← hsn.out] at h10; obtain ⟨va, vc, rfl, v1, v2⟩ := SlK.valn h10))
          go_roundw
          case rel =>
            refine ⟨j + 1, by omega, by go_num, ?_⟩
            show SatL _ (SlK _ _ _ _ _ :: _)
            rw [bufsOf_len]; exact h10
          case measure => simp [intOf]; omega
        · obtain rfl : k = j := by omega
          have hs2 := hs.bring [4, 5, 0, 1, 2, 3]
          have hI := HI.out
          have qf := free_eq (hI.dok Hp.out).1 hs2
          have hfn : free d.busy ≤ n := by have := hI.free; omega
          by_cases hf : k ≤ free d.busy
          · have qa := add_c Hp.out hk1 (by omega) hI hf hs2
            have hfz : decide ((free d.busy : Int) < (k : Int)) = false := by simp; omega
            have hfz2 : ¬ (free d.busy : Int) < (k : Int) := by omega
            have hfz3 : ¬ free d.busy < k := by omega
            have hfr1 := hid hI.free
            have hfree2 := hid (fun (w' : World) (d' : Dr) (m' : List UInt8) (Q' : List Ent) (X : List HP) (h : OInv n d' r m' Q' cn) (hw : SatL w' (DrvR db w1.heap.size 0 d' :: X)) => free_eq (h.dok Hp.out).1 hw)
            have Hf := hid hf
            clear hs hs' hs2 hI hf
            generalize free d.busy = f at *
            go_upto_region 29 with (first
              | (go_at_call 16; (with_reducible refine qf.mono ?_); rintro e w2 ⟨v, rfl, rfl, rfl⟩)
              | (go_at_call 12; (with_reducible refine qa.mono ?_); rintro e w3 ⟨v, rfl, c, d', m', hcl, rfl, hI', hs3⟩))
            have hd2 := hfree2.out _ _ _ _ _ hI' hs3
            have hfl : free d'.busy + k = f := by
              have h1 := hI'.free
              have h2 := hfr1.out
              have h3 : (flat (Q ++ [(⟨c, s⟩ : Ent)])).length = (flat Q).length + c.length := by unfold flat; rw [List.flatMap_append, List.flatMap_singleton, List.length_append]
              omega
            have hsm := (hI'.lt _ (mem_flat.2 ⟨⟨c, s⟩, by simp, head_mem (List.length_pos_iff.1 (show 0 < c.length by omega))⟩) : (⟨c, s⟩ : Ent).head < n)
            have e1 : natV (headsL Q) ++ [Value.int .i64 ((⟨c, s⟩ : Ent).head : Nat)] = natV (headsL (Q ++ [⟨c, s⟩])) := by unfold natV headsL; simp
            have e2 : natV (pcsL Q) ++ [Value.int .i64 (s : Nat), .int .i64 (k : Nat)] = natV (pcsL (Q ++ [⟨c, s⟩])) := by unfold natV pcsL; simp [hcl]
            have HI2 := hid hI'
            have HQ2 := hid (show ∀ e ∈ Q ++ [(⟨c, s⟩ : Ent)], e.s + e.c.length ≤ s + k from fun e he => by
              rcases List.mem_append.1 he with he | he
              · have := HQs.out e he; omega
              · have : e = ⟨c, s⟩ := by simpa using he
                subst this
                show s + c.length ≤ _; omega)
            have hs4 := hs3.bring [3, 4, 5, 0, 1, 2, 6]
            have hQlen : (natV (headsL Q)).length = Q.length := by unfold natV headsL; simp
            have hPlen : (natV (pcsL Q)).length = Q.length * 2 := by unfold natV; rw [List.length_map, pcsL_len]
            have hQb : Q.length ≤ 32 := by have := flat_len HI.out.ne; have := HI.out.free; omega
            have b1 : ((natV (headsL Q)).length + 1) * 8 ≤ 140737488355328 := by omega
            have b2 : (Q.length * 2 + 2) * 8 ≤ 140737488355328 := by omega
            have b3 : Q.length * 2 + 2 ≤ maxLen := by unfold maxLen; omega
            have E1 := hid e1
            have E2 := hid e2
            have hPl := hid hPlen
            have hflz : (free d'.busy : Int) = (f : Int) - (k : Int) := by omega
            have hone := hid (show ∀ y ∈ [Value.int .i64 (s : Int), .int .i64 (k : Int)], y.oneCell' = true by intro y hy; simp at hy; rcases hy with rfl | rfl <;> rfl)
            have hst := hid (fun (w' : World) (X : List HP) (h : SatL w' (NatsL (.slice pa (Q.length * 2) pc) (pcsL Q) :: X)) => (by
              have h1 := h.alloc (.cells #[.int .i64 (s : Int), .int .i64 (k : Int)] 3)
              exact ⟨Sl.toK (SatL.swap h1) hPl.out, SrcOk.ofCl (n := 2) (k := 1) elem_int.under h1 rfl 2⟩ : SatL (w'.alloc (.cells #[.int .i64 (s : Int), .int .i64 (k : Int)] 3)) (SlK 3 1 (.slice pa (Q.length * 2) pc) (Q.length * 2) (natV (pcsL Q)) :: cl w'.heap.size 3 #[.int .i64 (s : Int), .int .i64 (k : Int)] :: X) ∧ SrcOk Try.prog 55 1 (w'.alloc (.cells #[.int .i64 (s : Int), .int .i64 (k : Int)] 3)) (.slice (some ⟨w'.heap.size, 0, none⟩) 2 2) 2 [.int .i64 (s : Int), .int .i64 (k : Int)]))
            clear hs3 hI' e1 e2 hQlen hPlen qf qa hfl
            generalize hhd : (⟨c, s⟩ : Ent).head = hd at *
            go_wp2_with (first
              | (at_builtin; refine wpList_push_sl rfl (.tmp 117) (.tmp 119) rfl elem_int (by decide) rfl hs4 rfl rfl b1 ?_; intro v5 w5 h5; rw [E1.out] at h5; obtain ⟨va, vc, rfl, v1, v2⟩ := Sl.valn h5 (m := Q.length + 1) (by unfold natV headsL; simp); obtain ⟨h6, h7⟩ := hst.out _ _ (h5.pull 1 : SatL _ (Sl _ _ _ :: _)))
              | (at_builtin; refine wpList_append_sl rfl (.tmp 121) (.tmp 124) rfl elem_int rfl h6 rfl h7 hone.out b2 b3 ?_; intro v8 w8 h8 _; have h9 := Sl.ofK h8; rw [E2.out] at h9; have h10 := SatL.tail (h9.bring [1, 0]); obtain ⟨ua, uc, rfl, u1, u2⟩ := Sl.valn h9 (m := Q.length * 2 + 2) (by unfold natV; rw [List.length_map, pcsL_len]; simp; omega); have hd3 := hfree2.out _ _ _ _ _ HI2.out (h10.pull 3 : SatL _ (DrvR _ _ _ _ :: _)))
              | (go_at_call 16; (with_reducible refine hd3.mono ?_); rintro e w9 ⟨v, rfl, rfl, rfl⟩))
            go_roundw
            case rel => exact ⟨i + 1, cn, s + k, d', r, m', _, by omega, by go_num, by go_num, by omega, HQ2.out, HI2.out, SatL.tail (h10.bring [5, 1, 0, 2, 3, 4])⟩
            case measure => simp [intOf]; omega
          · have qa := add_f Hp.out hk1 (by omega) (by omega) hI (by omega) hs2
            have hfz : decide ((free d.busy : Int) < (k : Int)) = true := by simp; omega
            have hfz2 : (free d.busy : Int) < (k : Int) := by omega
            have hfz3 : free d.busy < k := by omega
            clear hs hs' hs2 hI hf
            generalize free d.busy = f at *
            go_wp2_with (first
              | (go_at_call 16; (with_reducible refine qf.mono ?_); rintro e w2 ⟨v, rfl, rfl, rfl⟩)
              | (go_at_call 12; (with_reducible refine qa.mono ?_); rintro e w3 ⟨v, rfl, rfl, hs3⟩))
            have HS3 := hid (SatL.tail (hs3.bring [2, 3, 4, 5, 0, 1, 6]))
            clear hs3 qf qa
            go_loopw [13, 14] (fun hv pv wr => ∃ (cn : Nat) (d : Dr) (r : Ring) (m : List UInt8) (Q : List Ent), (∀ e ∈ Q, e.s + e.c.length ≤ s) ∧ OInv n d r m Q cn ∧
              SatL wr (NatsL hv (headsL Q) :: NatsL pv (pcsL Q) :: DevR vb w1.heap.size 0 r :: DrvR db w1.heap.size 0 d :: SlB 5 (mvZ w1.heap.size z) m :: [old w])) (fun hv _ _ => lenV hv)
            case atStart => exact ⟨cn, d, r, m, Q, HQs.out, HI.out, HS3.out⟩
            case round =>
              clear HS3 HQs HI ha1 ha2 pa1 pa2
              obtain ⟨cn, d, r, m, Q, hQs, hI, hs⟩ := hrel
              cases Q with
              | nil =>
                obtain ⟨ha, hc, rfl, ha1, ha2⟩ := Sl.valn hs (m := 0) rfl
                have qt := take_e Hp.out hI (hs.bring [2, 4, 0, 1, 3, 5])
                have qu := hid (fun (w' : World) (X : List HP) (h : SatL w' (DrvR db w1.heap.size 0 d :: SlB 5 (mvZ w1.heap.size z) m :: X)) => used_e Hp.out hI h)
                have qy := hid (fun (w' : World) (X : List HP) (h : SatL w' (DrvR db w1.heap.size 0 d :: X)) => fly_e Hp.out hI h)
                have qf2 := hid (fun (w' : World) (X : List HP) (h : SatL w' (DrvR db w1.heap.size 0 d :: X)) => (by have := free_eq (hI.dok Hp.out).1 h; rw [(empty_says hI).2.2.1] at this; exact this : Calls Try.prog 16 #[.pointer (some ⟨db, 0, none⟩)] w' (Ret fun v w'' => v = .int .i64 (n : Nat) ∧ w' = w'')))
                have HI3 := hid hI
                clear hI hs hQs
                go_wp2_with (first
                  | (go_at_call 13; (with_reducible refine qt.mono ?_); rintro e2 w5 ⟨v, rfl, lv, rfl, h5⟩; have q6 := qu.out _ _ (h5.bring [4, 1, 0, 2, 3, 5]))
                  | (go_at_call 15; (with_reducible refine q6.mono ?_); rintro e2 w6 ⟨v, rfl, rfl, h6⟩; have q7 := qf2.out _ _ h6; have q8 := qy.out _ _ h6)
                  | (go_at_call 16; (with_reducible refine q7.mono ?_); rintro e2 w7 ⟨v, rfl, rfl, rfl⟩)
                  | (go_at_call 22; (with_reducible refine q8.mono ?_); rintro e2 w8 ⟨v, rfl, fa, fc, rfl, h8⟩))
                go_roundw
                case rel => exact ⟨i + 1, cn, s, d, r, m, [], by omega, by go_num, rfl, by omega, (fun e h => by simp at h), HI3.out, h8.bring [3, 4, 2, 0, 1]⟩
                case measure => simp [intOf]; omega
              | cons e Q =>
                have hel := hQs e List.mem_cons_self
                obtain ⟨sm1, sm2, sm3⟩ := hI.small Hp.out
                have hQb : Q.length ≤ 32 := by have h1 := flat_len hI.ne; have h2 := hI.free; rw [List.length_cons] at h1; omega
                obtain ⟨ha, hc, rfl, ha1, ha2⟩ := Sl.valn hs (m := Q.length + 1) (by unfold natV headsL; simp)
                obtain ⟨hb, ho, rfl⟩ := Sl.addr hs (by omega)
                obtain ⟨pa, pc, rfl, pa1, pa2⟩ := Sl.valn (hs.pull 1 : SatL wr (Sl _ _ _ :: _)) (m := (Q.length + 1) * 2) (by unfold natV; rw [List.length_map, pcsL_len, List.length_cons])
                obtain ⟨pb, po, rfl⟩ := Sl.addr (hs.pull 1 : SatL wr (Sl _ _ _ :: _)) (by omega)
                have hch := hid (fun (w' : World) (X : List HP) (h : SatL w' (NatsL (.slice (some ⟨hb, ho, none⟩) (Q.length + 1) hc) (headsL (e :: Q)) :: X)) => (by have := Sl.cell h (i := 0) (x := .int .i64 (e.head : Nat)) rfl; rwa [Nat.add_zero] at this : w'.cell? ⟨hb, ho, none⟩ = some (.int .i64 (e.head : Int))))
                have hcp := hid (fun (w' : World) (X : List HP) (h : SatL w' (NatsL (.slice (some ⟨pb, po, none⟩) ((Q.length + 1) * 2) pc) (pcsL (e :: Q)) :: X)) => (⟨by have := Sl.cell h (i := 0) (x := .int .i64 (e.s : Nat)) rfl; rwa [Nat.add_zero] at this, Sl.cell h (i := 1) (x := .int .i64 (e.c.length : Nat)) rfl⟩ : w'.cell? ⟨pb, po, none⟩ = some (.int .i64 (e.s : Int)) ∧ w'.cell? ⟨pb, po + 1, none⟩ = some (.int .i64 (e.c.length : Int))))
                have qt := take_c Hp.out hI (by omega) (hs.bring [2, 4, 0, 1, 3, 5])
                have qg := hid (fun (w' : World) (X : List HP) (h : SatL w' (DevR vb w1.heap.size 0 ⟨0, n, (cn + 1) % 65536, cn % 65536⟩ :: SlB 5 (mvZ w1.heap.size z) m :: X)) => give_c Hp.out hI (by omega) h)
                have qu := hid (fun (w' : World) (X : List HP) (h : SatL w' (DrvR db w1.heap.size 0 d :: SlB 5 (mvZ w1.heap.size z) (gaveM n cn e m) :: X)) => used_c Hp.out hI (by omega) h)
                have hlz : (0 : Int) < (Q.length : Int) + 1 := by omega
                have hlp1 : (1 : Int) < ((Q.length : Int) + 1) * 2 := by omega
                have hlp0 : (0 : Int) < ((Q.length : Int) + 1) * 2 := by omega
                have hlz2 : ((Q.length + 1 : Nat) : Int) = (Q.length : Int) + 1 := by omega
                have HQ2 := hid (fun x (hx : x ∈ Q) => hQs x (List.mem_cons_of_mem _ hx))
                have smz : (e.head : Int) < n := by omega
                have smz2 : (e.c.length : Int) ≤ n := by omega
                have smz3 : (1 : Int) ≤ e.c.length := by omega
                have smz4 : (0 : Int) < e.c.length := by omega
                have smz5 : 0 < e.c.length := by omega
                have hesb : (e.s : Int) ≤ 12800 := by omega
                have hHd := hid (show headsL (e :: Q) = e.head :: headsL Q from rfl)
                have hPc := hid (show pcsL (e :: Q) = e.s :: e.c.length :: pcsL Q from rfl)
                clear hI hs hQs hlz2
                generalize e.head = eh at *
                generalize e.s = es at *
                generalize hgm : gaveM n cn e m = m2 at *
                generalize e.c.length = ek at *
                go_upto_region 36 with (first
                  | (go_at_call 13; (with_reducible refine qt.mono ?_); rintro e2 w5 ⟨v, rfl, tb, tof, tc, rfl, tc1, tc2, ct, h5⟩))
                have h5d := sat_drew.2 h5
                have S5 : w5.drew.cell? ⟨hb, ho, none⟩ = some (.int .i64 (eh : Int)) ∧ w5.drew.cell? ⟨pb, po, none⟩ = some (.int .i64 (es : Int)) ∧ w5.drew.cell? ⟨pb, po + 1, none⟩ = some (.int .i64 (ek : Int)) ∧ w5.drew.cell? ⟨tb, tof, none⟩ = some (.int .i64 (es : Int)) := ⟨hch.out _ _ (h5d.pull 3 : SatL _ (Sl _ _ _ :: _)), (hcp.out _ _ (h5d.pull 4 : SatL _ (Sl _ _ _ :: _))).1, (hcp.out _ _ (h5d.pull 4 : SatL _ (Sl _ _ _ :: _))).2, ct⟩
                have q5 := qg.out _ _ (h5d.bring [1, 2, 0, 3, 4, 5, 6])
                have hct := hid (fun (w' : World) (X : List HP) (h : SatL w' (BufR (.slice (some ⟨tb, tof, none⟩) ek tc) (bufsOf es ek) :: X)) => (by
                  have h' : SatL w' (SlK 36 3 (.slice (some ⟨tb, tof, none⟩) ek tc) ek (bufV (bufsOf es ek)) :: X) := by have e : SatL w' (SlK _ _ _ _ _ :: _) := h; rw [bufsOf_len] at e; exact e
                  have := SlK.cell h' (bufV_get (bufsOf_get (s := es) (j := 0) sm1)).1
                  simpa [bufOf] using this : w'.cell? ⟨tb, tof, none⟩ = some (.int .i64 (es : Int))))
                have HS5 := hid h5d
                clear h5 h5d ct qt
                refine GoE.start (fun w' => w'.cell? ⟨hb, ho, none⟩ = some (.int .i64 (eh : Int)) ∧ w'.cell? ⟨pb, po, none⟩ = some (.int .i64 (es : Int)) ∧ w'.cell? ⟨pb, po + 1, none⟩ = some (.int .i64 (ek : Int)) ∧ w'.cell? ⟨tb, tof, none⟩ = some (.int .i64 (es : Int))) 34 35 rfl (by kernel_rfl) ?_
                refine GoE.take (i := 0) (v := ?_) rfl (by decide) (by kernel_rfl) (by kernel_rfl) (by kernel_rfl) (by kernel_rfl) (fun _ _ _ h => h) (by rfl) ?_ (by assumption) ?_
                rotate_left
                · intro w hSw; (try dsimp only at hSw); go_simp; try (with_reducible rfl)
                try simp only [Act.put, List.setIfInBounds_toArray, List.set_cons_zero, List.set_cons_succ]
                refine GoE.take (i := 1) (v := ?_) rfl (by decide) (by kernel_rfl) (by kernel_rfl) (by kernel_rfl) (by kernel_rfl) (fun _ _ _ h => h) (by rfl) ?_ (by assumption) ?_
                rotate_left
                · intro w hSw; (try dsimp only at hSw); go_simp; try (with_reducible rfl)
                try simp only [Act.put, List.setIfInBounds_toArray, List.set_cons_zero, List.set_cons_succ]
                refine GoE.take (i := 2) (v := ?_) rfl (by decide) (by kernel_rfl) (by kernel_rfl) (by kernel_rfl) (by kernel_rfl) (fun _ _ _ h => h) (by rfl) ?_ (by assumption) ?_
                rotate_left
                · intro w hSw; (try dsimp only at hSw); go_simp; try (with_reducible rfl)
                try simp only [Act.put, List.setIfInBounds_toArray, List.set_cons_zero, List.set_cons_succ]
                refine GoE.take (i := 3) (v := ?_) rfl (by decide) (by kernel_rfl) (by kernel_rfl) (by kernel_rfl) (by kernel_rfl) (fun _ _ _ h => h) (by rfl) ?_ (by assumption) ?_
                rotate_left
                · intro w hSw; (try dsimp only at hSw); go_simp; try (with_reducible rfl)
                try simp only [Act.put, List.setIfInBounds_toArray, List.set_cons_zero, List.set_cons_succ]
                refine GoE.take (i := 4) (v := ?_) rfl (by decide) (by kernel_rfl) (by kernel_rfl) (by kernel_rfl) (by kernel_rfl) (fun _ _ _ h => h) (by rfl) ?_ (by assumption) ?_
                rotate_left
                · intro w hSw; (try dsimp only at hSw); go_simp; try (with_reducible rfl)
                try simp only [Act.put, List.setIfInBounds_toArray, List.set_cons_zero, List.set_cons_succ]
                refine GoE.take (i := 5) (v := ?_) rfl (by decide) (by kernel_rfl) (by kernel_rfl) (by kernel_rfl) (by kernel_rfl) (fun _ _ _ h => h) (by rfl) ?_ (by assumption) ?_
                rotate_left
                · intro w hSw; (try dsimp only at hSw); go_simp; try (with_reducible rfl)
                try simp only [Act.put, List.setIfInBounds_toArray, List.set_cons_zero, List.set_cons_succ]
                refine GoE.take (i := 6) (v := ?_) rfl (by decide) (by kernel_rfl) (by kernel_rfl) (by kernel_rfl) (by kernel_rfl) (fun _ _ _ h => h) (by rfl) ?_ (by assumption) ?_
                rotate_left
                · intro w hSw; (try dsimp only at hSw); go_simp; try (with_reducible rfl)
                try simp only [Act.put, List.setIfInBounds_toArray, List.set_cons_zero, List.set_cons_succ]
                refine GoE.take (i := 7) (v := ?_) rfl (by decide) (by kernel_rfl) (by kernel_rfl) (by kernel_rfl) (by kernel_rfl) (fun _ _ _ h => h) (by rfl) ?_ (by assumption) ?_
                rotate_left
                · intro w hSw; (try dsimp only at hSw); go_simp; try (with_reducible rfl)
                try simp only [Act.put, List.setIfInBounds_toArray, List.set_cons_zero, List.set_cons_succ]
                refine GoE.take (i := 8) (v := ?_) rfl (by decide) (by kernel_rfl) (by kernel_rfl) (by kernel_rfl) (by kernel_rfl) (fun _ _ _ h => h) (by rfl) ?_ (by assumption) ?_
                rotate_left
                · intro w hSw; (try dsimp only at hSw); go_simp; try (with_reducible rfl)
                try simp only [Act.put, List.setIfInBounds_toArray, List.set_cons_zero, List.set_cons_succ]
                refine GoE.take (i := 9) (v := ?_) rfl (by decide) (by kernel_rfl) (by kernel_rfl) (by kernel_rfl) (by kernel_rfl) (fun _ _ _ h => h) (by rfl) ?_ (by assumption) ?_
                rotate_left
                · intro w hSw; (try dsimp only at hSw); go_simp; try (with_reducible rfl)
                try simp only [Act.put, List.setIfInBounds_toArray, List.set_cons_zero, List.set_cons_succ]
                refine GoE.take (i := 10) (v := ?_) rfl (by decide) (by kernel_rfl) (by kernel_rfl) (by kernel_rfl) (by kernel_rfl) (fun _ _ _ h => h) (by rfl) ?_ (by assumption) ?_
                rotate_left
                · intro w hSw; (try dsimp only at hSw); go_simp; try (with_reducible rfl)
                try simp only [Act.put, List.setIfInBounds_toArray, List.set_cons_zero, List.set_cons_succ]
                refine GoE.take (i := 11) (v := ?_) rfl (by decide) (by kernel_rfl) (by kernel_rfl) (by kernel_rfl) (by kernel_rfl) (fun _ _ _ h => h) (by rfl) ?_ (by assumption) ?_
                rotate_left
                · intro w hSw; (try dsimp only at hSw); go_simp; try (with_reducible rfl)
                try simp only [Act.put, List.setIfInBounds_toArray, List.set_cons_zero, List.set_cons_succ]
                refine GoE.take (i := 12) (v := ?_) rfl (by decide) (by kernel_rfl) (by kernel_rfl) (by kernel_rfl) (by kernel_rfl) (fun _ _ _ h => h) (by rfl) ?_ (by assumption) ?_
                rotate_left
                · intro w hSw; (try dsimp only at hSw); go_simp; try (with_reducible rfl)
                try simp only [Act.put, List.setIfInBounds_toArray, List.set_cons_zero, List.set_cons_succ]
                refine GoE.take (i := 13) (v := ?_) rfl (by decide) (by kernel_rfl) (by kernel_rfl) (by kernel_rfl) (by kernel_rfl) (fun _ _ _ h => h) (by rfl) ?_ (by assumption) ?_
                rotate_left
                · intro w hSw; (try dsimp only at hSw); go_simp; try (with_reducible rfl)
                try simp only [Act.put, List.setIfInBounds_toArray, List.set_cons_zero, List.set_cons_succ]
                refine GoE.take (i := 14) (v := ?_) rfl (by decide) (by kernel_rfl) (by kernel_rfl) (by kernel_rfl) (by kernel_rfl) (fun _ _ _ h => h) (by rfl) ?_ (by assumption) ?_
                rotate_left
                · intro w hSw; (try dsimp only at hSw); go_simp; try (with_reducible rfl)
                try simp only [Act.put, List.setIfInBounds_toArray, List.set_cons_zero, List.set_cons_succ]
                refine GoE.take (i := 15) (v := ?_) rfl (by decide) (by kernel_rfl) (by kernel_rfl) (by kernel_rfl) (by kernel_rfl) (fun _ _ _ h => h) (by rfl) ?_ (by assumption) ?_
                rotate_left
                · intro w hSw; (try dsimp only at hSw); go_simp; try (with_reducible rfl)
                try simp only [Act.put, List.setIfInBounds_toArray, List.set_cons_zero, List.set_cons_succ]
                refine GoE.take (i := 16) (v := ?_) rfl (by decide) (by kernel_rfl) (by kernel_rfl) (by kernel_rfl) (by kernel_rfl) (fun _ _ _ h => h) (by rfl) ?_ (by assumption) ?_
                rotate_left
                · intro w hSw; (try dsimp only at hSw); go_simp; try (with_reducible rfl)
                try simp only [Act.put, List.setIfInBounds_toArray, List.set_cons_zero, List.set_cons_succ]
                refine GoE.take (i := 17) (v := ?_) rfl (by decide) (by kernel_rfl) (by kernel_rfl) (by kernel_rfl) (by kernel_rfl) (fun _ _ _ h => h) (by rfl) ?_ (by assumption) ?_
                rotate_left
                · intro w hSw; (try dsimp only at hSw); go_simp; try (with_reducible rfl)
                try simp only [Act.put, List.setIfInBounds_toArray, List.set_cons_zero, List.set_cons_succ]
                refine GoE.take (i := 18) (v := ?_) rfl (by decide) (by kernel_rfl) (by kernel_rfl) (by kernel_rfl) (by kernel_rfl) (fun _ _ _ h => h) (by rfl) ?_ (by assumption) ?_
                rotate_left
                · intro w hSw; (try dsimp only at hSw); go_simp; try (with_reducible rfl)
                try simp only [Act.put, List.setIfInBounds_toArray, List.set_cons_zero, List.set_cons_succ]
                refine GoE.take (i := 19) (v := ?_) rfl (by decide) (by kernel_rfl) (by kernel_rfl) (by kernel_rfl) (by kernel_rfl) (fun _ _ _ h => h) (by rfl) ?_ (by assumption) ?_
                rotate_left
                · intro w hSw; (try dsimp only at hSw); go_simp; try (with_reducible rfl)
                try simp only [Act.put, List.setIfInBounds_toArray, List.set_cons_zero, List.set_cons_succ]
                refine GoE.take (i := 20) (v := ?_) rfl (by decide) (by kernel_rfl) (by kernel_rfl) (by kernel_rfl) (by kernel_rfl) (fun _ _ _ h => h) (by rfl) ?_ (by assumption) ?_
                rotate_left
                · intro w hSw; (try dsimp only at hSw); go_simp; try (with_reducible rfl)
                try simp only [Act.put, List.setIfInBounds_toArray, List.set_cons_zero, List.set_cons_succ]
                refine GoE.take (i := 21) (v := ?_) rfl (by decide) (by kernel_rfl) (by kernel_rfl) (by kernel_rfl) (by kernel_rfl) (fun _ _ _ h => h) (by rfl) ?_ (by assumption) ?_
                rotate_left
                · intro w hSw; (try dsimp only at hSw); go_simp; try (with_reducible rfl)
                try simp only [Act.put, List.setIfInBounds_toArray, List.set_cons_zero, List.set_cons_succ]
                refine GoE.take (i := 22) (v := ?_) rfl (by decide) (by kernel_rfl) (by kernel_rfl) (by kernel_rfl) (by kernel_rfl) (fun _ _ _ h => h) (by rfl) ?_ (by assumption) ?_
                rotate_left
                · intro w hSw; (try dsimp only at hSw); go_simp; try (with_reducible rfl)
                try simp only [Act.put, List.setIfInBounds_toArray, List.set_cons_zero, List.set_cons_succ]
                refine GoE.take (i := 23) (v := ?_) rfl (by decide) (by kernel_rfl) (by kernel_rfl) (by kernel_rfl) (by kernel_rfl) (fun _ _ _ h => h) (by rfl) ?_ (by assumption) ?_
                rotate_left
                · intro w hSw; (try dsimp only at hSw); go_simp; try (with_reducible rfl)
                try simp only [Act.put, List.setIfInBounds_toArray, List.set_cons_zero, List.set_cons_succ]
                refine GoE.take (i := 24) (v := ?_) rfl (by decide) (by kernel_rfl) (by kernel_rfl) (by kernel_rfl) (by kernel_rfl) (fun _ _ _ h => h) (by rfl) ?_ (by assumption) ?_
                rotate_left
                · intro w hSw; (try dsimp only at hSw); go_simp; try (with_reducible rfl)
                try simp only [Act.put, List.setIfInBounds_toArray, List.set_cons_zero, List.set_cons_succ]
                refine GoE.take (i := 25) (v := ?_) rfl (by decide) (by kernel_rfl) (by kernel_rfl) (by kernel_rfl) (by kernel_rfl) (fun _ _ _ h => h) (by rfl) ?_ (by assumption) ?_
                rotate_left
                · intro w hSw; (try dsimp only at hSw); go_simp; try (with_reducible rfl)
                try simp only [Act.put, List.setIfInBounds_toArray, List.set_cons_zero, List.set_cons_succ]
                refine GoE.take (i := 26) (v := ?_) rfl (by decide) (by kernel_rfl) (by kernel_rfl) (by kernel_rfl) (by kernel_rfl) (fun _ _ _ h => h) (by rfl) ?_ (by assumption) ?_
                rotate_left
                · intro w hSw; (try dsimp only at hSw); go_simp; try (with_reducible rfl)
                try simp only [Act.put, List.setIfInBounds_toArray, List.set_cons_zero, List.set_cons_succ]
                refine GoE.take (i := 27) (v := ?_) rfl (by decide) (by kernel_rfl) (by kernel_rfl) (by kernel_rfl) (by kernel_rfl) (fun _ _ _ h => h) (by rfl) ?_ (by assumption) ?_
                rotate_left
                · intro w hSw; (try dsimp only at hSw); go_simp; try (with_reducible rfl)
                try simp only [Act.put, List.setIfInBounds_toArray, List.set_cons_zero, List.set_cons_succ]
                refine GoE.take (i := 28) (v := ?_) rfl (by decide) (by kernel_rfl) (by kernel_rfl) (by kernel_rfl) (by kernel_rfl) (fun _ _ _ h => h) (by rfl) ?_ (by assumption) ?_
                rotate_left
                · intro w hSw; (try dsimp only at hSw); go_simp; try (with_reducible rfl)
                try simp only [Act.put, List.setIfInBounds_toArray, List.set_cons_zero, List.set_cons_succ]
                refine GoE.take (i := 29) (v := ?_) rfl (by decide) (by kernel_rfl) (by kernel_rfl) (by kernel_rfl) (by kernel_rfl) (fun _ _ _ h => h) (by rfl) ?_ (by assumption) ?_
                rotate_left
                · intro w hSw; (try dsimp only at hSw); go_simp; try (with_reducible rfl)
                try simp only [Act.put, List.setIfInBounds_toArray, List.set_cons_zero, List.set_cons_succ]
                refine GoE.take (i := 30) (v := ?_) rfl (by decide) (by kernel_rfl) (by kernel_rfl) (by kernel_rfl) (by kernel_rfl) (fun _ _ _ h => h) (by rfl) ?_ (by assumption) ?_
                rotate_left
                · intro w hSw; (try dsimp only at hSw); go_simp; try (with_reducible rfl)
                try simp only [Act.put, List.setIfInBounds_toArray, List.set_cons_zero, List.set_cons_succ]
                refine GoE.take (i := 31) (v := ?_) rfl (by decide) (by kernel_rfl) (by kernel_rfl) (by kernel_rfl) (by kernel_rfl) (fun _ _ _ h => h) (by rfl) ?_ (by assumption) ?_
                rotate_left
                · intro w hSw; (try dsimp only at hSw); go_simp; try (with_reducible rfl)
                try simp only [Act.put, List.setIfInBounds_toArray, List.set_cons_zero, List.set_cons_succ]
                refine GoE.one (i := 32) rfl (by kernel_rfl) (fun K hK => ?_)
                go_simp
                go_at_call 14
                (with_reducible refine (q5).mono ?_)
                rintro e2 w6 ⟨v, rfl, rfl, h6⟩; have S6 := (⟨hch.out _ _ (h6.pull 3 : SatL _ (Sl _ _ _ :: _)), (hcp.out _ _ (h6.pull 4 : SatL _ (Sl _ _ _ :: _))).1, (hcp.out _ _ (h6.pull 4 : SatL _ (Sl _ _ _ :: _))).2, hct.out _ _ (h6.pull 2 : SatL _ (SlK _ _ _ _ _ :: _))⟩ : w6.cell? ⟨hb, ho, none⟩ = some (.int .i64 (eh : Int)) ∧ w6.cell? ⟨pb, po, none⟩ = some (.int .i64 (es : Int)) ∧ w6.cell? ⟨pb, po + 1, none⟩ = some (.int .i64 (ek : Int)) ∧ w6.cell? ⟨tb, tof, none⟩ = some (.int .i64 (es : Int)))
                go_wp2_with fail
                refine hK.out _ _ (fun _ => S6) ?_
                clear hK K
                try simp only [Act.put, List.setIfInBounds_toArray, List.set_cons_zero, List.set_cons_succ]
                refine GoE.take (i := 33) (v := ?_) rfl (by decide) (by kernel_rfl) (by kernel_rfl) (by kernel_rfl) (by kernel_rfl) (fun _ _ _ h => h) (by rfl) ?_ (by assumption) ?_
                rotate_left
                · intro w hSw; (try dsimp only at hSw); go_simp; try (with_reducible rfl)
                try simp only [Act.put, List.setIfInBounds_toArray, List.set_cons_zero, List.set_cons_succ]
                refine GoE.one (i := 34) rfl (by kernel_rfl) (fun K hK => ?_)
                go_simp
                refine hK.out _ _ (fun h => absurd rfl h) ?_
                clear hK K
                try simp only [Act.put, List.setIfInBounds_toArray, List.set_cons_zero, List.set_cons_succ]
                refine GoE.done (by kernel_rfl) ?_
                have q6 := qu.out _ _ (h6.bring [5, 1, 0, 2, 3, 4, 6])
                clear q5 S5 S6 hct HS5
                go_upto_region 41 with (first
                  | (go_at_call 15; (with_reducible refine q6.mono ?_); rintro e2 w7 ⟨v, rfl, d', rfl, hI', h7⟩; have cz := hch.out _ _ (h7.pull 4 : SatL _ (Sl _ _ _ :: _)); obtain ⟨cy, cx⟩ := hcp.out _ _ (h7.pull 5 : SatL _ (Sl _ _ _ :: _))))
                have HI7 := hid hI'
                have H7 := hid h7
                clear hI' h7 h6 q6 cz cy cx
                go_quiet (fail)
                have h8 := Sl.pop (p := 1) (H7.out.pull 4 : SatL _ (Sl _ (.slice (some ⟨hb, ho, none⟩) _ _) _ :: _)) (by omega)
                have h9 := Sl.pop (p := 2) (h8.pull 5 : SatL _ (Sl _ (.slice (some ⟨pb, po, none⟩) _ _) _ :: _)) (by omega)
                have h10 : SatL (w7.drewN nq) (NatsL (.slice (if hc = 1 then some ⟨hb, ho, none⟩ else some ⟨hb, ho + 1, none⟩) Q.length (hc - 1)) (headsL Q) :: NatsL (.slice (if pc = 2 then some ⟨pb, po, none⟩ else some ⟨pb, po + 2, none⟩) ((Q.length + 1) * 2 - 2) (pc - 2)) (pcsL Q) :: DevR vb w1.heap.size 0 ⟨0, n, (cn + 1) % 65536, (cn + 1) % 65536⟩ :: DrvR db w1.heap.size 0 d' :: SlB 5 (mvZ w1.heap.size z) m2 :: [old w]) := sat_dn.2 (SatL.tail (h9.bring [5, 1, 0, 4, 2, 3]))
                have H10 := hid h10
                clear h8 h9 h10 H7
                go_wp2
                go_roundw
                case rel => exact ⟨cn + 1, d', _, m2, Q, HQ2.out, HI7.out, H10.out⟩
                case measure => simp [lenV]
    · obtain rfl : i = R := by omega
      go_wp2
      go_ret
      exact Ret.mk ⟨rfl, SatL.tail (SatL.tail (SatL.tail (SatL.tail (SatL.tail hs))))⟩
end Go.Proofs.Ytnniipeoahpkcaa
