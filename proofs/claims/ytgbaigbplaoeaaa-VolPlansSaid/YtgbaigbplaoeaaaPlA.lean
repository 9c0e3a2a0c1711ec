/- vol: any, line, root. No condition beside the sizes. -/
import Derived.Test.YtgbaigbplaoeaaaPlR
namespace Go.Proofs.Ytgbaigbplaoeaaa
set_option linter.unusedVariables false
set_option linter.unusedSimpArgs false
open Go.RowKit
section
variable {w : World} {L : List HP}
theorem any_take {bs : List UInt8} {j : Nat} (hj : j < bs.length) : (bs.take (j + 1)).any (· != 0) = ((bs.take j).any (· != 0) || (bs.getD j 0 != 0)) := by
  rw [List.take_add_one, List.getElem?_eq_getElem hj, List.any_append]
  simp [List.getD, hj]
theorem any_ok {v : Value} {bs : List UInt8} (h : RdB v bs w) :
    Calls Try.prog 51 #[v] w fun e w' => e = .returned (.bool (bs.any (· != 0))) ∧ w = w' := by
  obtain ⟨bl, hbl⟩ : ∃ bl, bs.length = bl := ⟨_, rfl⟩
  obtain ⟨a, c, rfl, g1, g2⟩ := h.valn
  rw [hbl] at h g1 ⊢
  go_enter Try.func51, Try.ntmps51
  go_wp2
  go_loop [4, 7] (fun x i => ∃ j : Nat, j ≤ bl ∧ i = .int .i64 j ∧ (bs.take j).any (· != 0) = false) (fun _ i => bl - (intOf i).toNat)
  case atStart => exact ⟨0, by omega, rfl, rfl⟩
  case round =>
    obtain ⟨j, hj, rfl, hno⟩ := hrel
    by_cases hlt : j < bl
    · obtain ⟨z1, z2, z3, b, off, rfl, hcell⟩ := h.at (by omega)
      clear z1 z2 z3
      have hc := hcell j (by omega)
      have hst := any_take (bs := bs) (j := j) (by omega)
      rw [hno, Bool.false_or] at hst
      have hjz : (j : Int) < bl := by omega
      obtain ⟨x, hx⟩ : ∃ x, bs.getD j 0 = x := ⟨_, rfl⟩
      rw [hx] at hc hst
      have Hbl := hid hbl
      clear hcell hx hno h hbl
      by_cases h0 : x = 0
      · have t0 : ((x.toNat : Int) != 0) = false := by rw [h0]; rfl
        have Hst := hid (show (bs.take (j + 1)).any (· != 0) = false by rw [hst, h0]; rfl)
        clear hst h0
        go_wp2
        go_round
        case rel => exact ⟨j + 1, by omega, by go_num, Hst.out⟩
        case measure => simp [intOf]; omega
      · have t0 : ((x.toNat : Int) != 0) = true := by
          have : x.toNat ≠ 0 := fun e => h0 (UInt8.toNat_inj.1 (by rw [e]; rfl))
          simp; exact this
        have hall : bs.any (· != 0) = true := by
          have h1 : (bs.take (j + 1)).any (· != 0) = true := by rw [hst]; simpa using h0
          obtain ⟨y, hy, hne⟩ := List.any_eq_true.1 h1
          exact List.any_eq_true.2 ⟨y, List.mem_of_mem_take hy, hne⟩
        have Hall := hid hall
        clear hst h0 hall
        go_wp2
        go_ret
        exact ⟨by rw [Hall.out]; rfl, rfl⟩
    · obtain rfl : j = bl := by omega
      rw [← hbl, List.take_length] at hno
      have Hno := hid hno
      clear hno h hbl
      go_wp2
      go_ret
      exact ⟨by rw [Hno.out]; rfl, rfl⟩
theorem line_ok {s : ByteArray} (hs0 : s.size < 20) (h : SatL w L) :
    Calls Try.prog 53 #[.int .i64 1, .string s] w (Ret fun v w' => SatL w' (SlB 5 v (entryB s.data.toList) :: L)) := by
  have hal := h.alloc (.cells #[.int .u64 1] 76)
  have kp := putle4 (v := .slice none 0 0) (bs := []) (us := [1]) (by intro u hu; simp at hu; omega) (by simp) hal (fun w' h' => .inl ⟨rfl, rfl⟩) (fun w' h' => RdU.ofCl (n := 1) (c := 1) h' rfl rfl (by omega) (by omega))
  rw [show ([] : List UInt8) ++ [1].flatMap (lowb 4) = lowb 4 1 by simp] at kp
  have hw8 : IntKind.u8.wrap (s.size : Int) = ((byteOf s.size).toNat : Int) := byte_cast s.size
  have b8 : 0 < 1 := by omega
  have b1 : ((bvs (lowb 4 1)).length + 1) * 1 ≤ 140737488355328 := by rw [bvs_len, lowb_len]; omega
  have hl2 : (bvs (lowb 4 1 ++ [byteOf s.size])).length = 5 := by rw [bvs_len, List.length_append, lowb_len]; rfl
  have hl3 : (bvs (lowb 4 1 ++ [byteOf s.size] ++ s.data.toList)).length = 5 + s.size := by rw [bvs_len, List.length_append, List.length_append, lowb_len, Array.length_toList]; show 4 + 1 + s.data.size = 5 + s.data.size; omega
  have b2 : (5 + s.size) * 1 ≤ 140737488355328 := by omega
  have b3 : 5 + s.size ≤ maxLen := by unfold maxLen; omega
  have hsrc : ∀ w : World, SrcOk Try.prog 9 1 w (.string s) s.size (bvs s.data.toList) := fun w => ⟨by rw [bvs_len, Array.length_toList, Nat.mul_one]; rfl, .inr (.inr ⟨s, rfl, rfl, by kernel_rfl, rfl, rfl⟩)⟩
  obtain ⟨zn, hzn⟩ : ∃ zn, zn = 32 - (5 + s.size) := ⟨_, rfl⟩
  obtain ⟨ln, hln⟩ : ∃ ln, ln = 5 + s.size := ⟨_, rfl⟩
  rw [← hln] at hl3
  have hzz : (32 : Int) - (ln : Int) = (zn : Int) := by omega
  have hzw : IntKind.i64.wrap ((32 : Int) - (ln : Int)) = (zn : Int) := by rw [IntWalk.i64_in _ (by omega)]; omega
  have hb4 : ((bvs (lowb 4 1 ++ [byteOf s.size] ++ s.data.toList)).length + zn) * 1 ≤ 140737488355328 := by rw [hl3]; omega
  have Hent := hid (show entryB s.data.toList = lowb 4 1 ++ [byteOf s.size] ++ s.data.toList ++ List.replicate zn 0 by unfold entryB; rw [hzn, Array.length_toList]; rfl)
  have Hl2 := hid hl2
  have Hl3 := hid hl3
  have Hln := hid hln
  clear hal h hzn hl2 hl3 hln
  go_enter Try.func53, Try.ntmps53
  go_wp2_with (first
    | (go_at_call 47; (with_reducible refine kp.mono ?_); rintro e w1 ⟨q, rfl, v1, rfl, h1⟩; have t0 : True := trivial)
    | (have _t := t0; at_builtin; refine wpList_push_sl rfl (.tmp 14) (.tmp 18) rfl elem_byte b8 rfl h1 rfl rfl b1 ?_; intro v2 w2 h2; clear t0; have t1 : True := trivial; have hs2 := SlB.snoc (b := byteOf s.size) h2)
    | (have _t := t1; at_builtin; refine wpList_append_sl rfl (.tmp 19) (.tmp 20) rfl elem_byte rfl (Sl.toK hs2 Hl2.out) rfl (hsrc _) (bvs_one _) b2 b3 ?_; intro v3 w3 h3 _; clear t1; have hs3 := SlB.app (Sl.ofK h3); obtain ⟨a3, c3, rfl, q1, q2⟩ := Sl.valn hs3 (m := ln) Hl3.out; have t2 : True := trivial)
    | (have _t := t2; at_builtin; refine wpList_appendz_sl rfl (.tmp 22) (.tmp 25) rfl elem_byte Try.underlying3 rfl hs3 (m := zn) rfl b8 hb4 ?_; intro v4 w4 h4; clear t2))
  go_ret
  refine Ret.mk ?_
  rw [Hent.out]
  rw [← bvs_zeros, ← bvs_append] at h4
  exact h4.swap.tail
theorem putlit {v : Value} {bs : List UInt8} {us : List Nat} {k n nb : Nat} {cs : Array Value} (hnb : nb = w.heap.size) (hk : sizeOk k) (hf : fitsIn k us) (hb : bs.length ≤ 100000) (hl : us.length ≤ 10) (hcs : cs = (us.map u64v).toArray) (hn : n = us.length) (h : SatL w (SlB 5 v bs :: L)) :
    Calls Try.prog 47 #[v, .int .i64 k, .slice (some ⟨nb, 0, none⟩) n n] (w.alloc (.cells cs 76)) (Ret fun r w' => ∃ v', r = .tuple #[v', .int .i64 0] ∧ SatL w' (SlB 5 v' (bs ++ us.flatMap (lowb k)) :: L)) := by
  subst hnb
  have h1 := h.alloc (.cells cs 76)
  have kp := putle_ok (us := us) hk hf (by omega) h1 (fun w' h' => SlB.rd h'.tail) (fun w' h' => RdU.ofCl (n := n) (c := n) h' hcs hn (by omega) (by omega))
  refine kp.mono ?_
  rintro e w' ⟨r, rfl, v', rfl, h2⟩
  exact ⟨_, rfl, v', rfl, (((h2.pull 1).tail).pull 1).tail⟩
theorem fits_lit {k : Nat} {us : List Nat} (h : ∀ u ∈ us, u < 256 ^ k) : fitsIn k us := by
  intro i hi
  simp only [List.getD, List.getElem?_eq_getElem hi, Option.getD_some]
  exact h _ (List.getElem_mem hi)
theorem headA_eq : [2, 0] ++ [493, 2, 0].flatMap (lowb 2) ++ [0, 0, 1, 0].flatMap (lowb 4) ++ [64, 0].flatMap (lowb 8) = rootHead := by
  unfold rootHead
  simp only [List.flatMap_cons, List.flatMap_nil, List.append_nil, List.append_assoc]
set_option maxRecDepth 100000 in
set_option maxHeartbeats 4000000 in
theorem proot_ok {d sec nsec : Nat} (hd : d < 4294967296) (hs1 : sec < 4294967296) (hs2 : nsec < 4294967296) (b i t : Int) (h : SatL w L) :
    Calls Try.prog 52 #[planV b i t d, .agg #[.int .u32 sec, .int .u32 nsec]] w (Ret fun v w' => SatL w' (SlB 5 v (rootB d sec nsec) :: L)) := by
  have w3 := u64_in sec (by omega)
  have w4 := u64_in nsec (by omega)
  have w5 := u64_in d (by omega)
  have k1 := h.alloc (.cells #[.int .i64 b, .int .i64 i, .int .i64 1, .int .i64 2, .int .i64 68, .int .i64 69, .int .i64 t, .int .i64 d] 30)
  have k2 := k1.allocN (n := w.heap.size + 1) (.cells #[.int .u32 sec, .int .u32 nsec] 43) (by simp)
  have k3 := k2.allocN (n := w.heap.size + 1 + 1) (.cells #[.int .u8 2, .int .u8 0] 5) (by simp)
  have k4 := SlB.ofCl (n := 2) (l := [2, 0]) rfl rfl (by omega) k3
  have kp1 := putlit (nb := w.heap.size + 1 + 1 + 1) (k := 2) (us := [493, 2, 0]) (n := 3) (cs := #[.int .u64 493, .int .u64 2, .int .u64 0]) (by simp) (.inr (.inl rfl)) (fits_lit (by decide)) (by simp) (by simp) rfl rfl k4
  rw [show ((2 : Nat) : Int) = 2 from rfl] at kp1
  unfold planV
  clear k1 k2 k3 k4 h
  obtain ⟨A1, hA1⟩ : ∃ A1, [2, 0] ++ [493, 2, 0].flatMap (lowb 2) = A1 := ⟨_, rfl⟩
  obtain ⟨A2, hA2⟩ : ∃ A2, A1 ++ [0, 0, 1, 0].flatMap (lowb 4) = A2 := ⟨_, rfl⟩
  have hA3 : A2 ++ [64, 0].flatMap (lowb 8) = rootHead := by rw [← hA2, ← hA1]; exact headA_eq
  have hl1 : A1.length = 8 := by rw [← hA1]; rfl
  have hl2 : A2.length = 24 := by rw [← hA2, List.length_append, hl1]; rfl
  rw [hA1] at kp1
  have HA2 := hid hA2
  have HA3 := hid hA3
  have Hl1 := hid hl1
  have Hl2 := hid hl2
  clear hA1 hA2 hA3 hl1 hl2
  go_enter Try.func52, Try.ntmps52
  go_upto_region 4 with (first
    | (go_at_call 47; (with_reducible refine kp1.mono ?_); rintro e w6 ⟨q, rfl, v6, rfl, h6⟩; have kp2 : Calls Try.prog 47 #[v6, .int .i64 4, .slice (some ⟨w6.heap.size, 0, none⟩) 4 4] (w6.alloc (.cells #[.int .u64 0, .int .u64 0, .int .u64 1, .int .u64 0] 76)) _ := putlit (nb := w6.heap.size) (k := 4) (us := [0, 0, 1, 0]) rfl (.inr (.inr (.inl rfl))) (fits_lit (by decide)) (by rw [Hl1.out]; omega) (by simp) rfl rfl h6; rw [HA2.out] at kp2; clear h6 kp1)
    | (go_at_call 47; (with_reducible refine kp2.mono ?_); rintro e w7 ⟨q, rfl, v7, rfl, h7⟩; have kp3 : Calls Try.prog 47 #[v7, .int .i64 8, .slice (some ⟨w7.heap.size, 0, none⟩) 2 2] (w7.alloc (.cells #[.int .u64 64, .int .u64 0] 76)) _ := putlit (nb := w7.heap.size) (k := 8) (us := [64, 0]) rfl (.inr (.inr (.inr rfl))) (fits_lit (by decide)) (by rw [Hl2.out]; omega) (by simp) rfl rfl h7; rw [HA3.out] at kp3; clear h7 kp2)
    | (go_at_call 47; (with_reducible refine kp3.mono ?_); rintro e w8 ⟨q, rfl, v8, rfl, h8⟩; clear kp3))
  have h9 : SatL w8 (SlB 5 v8 (rootHead ++ stamps 0 sec nsec) :: cl (w.heap.size + 1) 43 #[.int .u32 sec, .int .u32 nsec] :: cl w.heap.size 30 #[.int .i64 b, .int .i64 i, .int .i64 1, .int .i64 2, .int .i64 68, .int .i64 69, .int .i64 t, .int .i64 d] :: L) := by
    rw [show rootHead ++ stamps 0 sec nsec = rootHead by simp [stamps]]
    exact h8
  generalize w.heap.size + 1 = c3 at h9 ⊢
  generalize w.heap.size = c2 at h9 ⊢
  clear h8
  go_wp2_with fail
  go_loopw [5, 25] (fun bv i' wr => ∃ j : Nat, j ≤ 3 ∧ i' = .int .i64 j ∧ SatL wr (SlB 5 bv (rootHead ++ stamps j sec nsec) :: cl c3 43 #[.int .u32 sec, .int .u32 nsec] :: cl c2 30 #[.int .i64 b, .int .i64 i, .int .i64 1, .int .i64 2, .int .i64 68, .int .i64 69, .int .i64 t, .int .i64 d] :: L)) (fun _ i' _ => 3 - (intOf i').toNat)
  case atStart => exact ⟨0, by omega, rfl, h9⟩
  case round =>
    clear h9
    obtain ⟨j, hj, rfl, hs⟩ := hrel
    by_cases hlt : j < 3
    · have c0 := (hs.pull 1 : SatL _ (cl _ _ _ :: _)).cell (i := 0) (v := .int .u32 sec) rfl
      have c1 := (hs.pull 1 : SatL _ (cl _ _ _ :: _)).cell (i := 1) (v := .int .u32 nsec) rfl
      have Hst := hid (stamps_succ j sec nsec)
      have hl0 : (rootHead ++ stamps j sec nsec).length ≤ 100 := by rw [List.length_append, rootHead_len, stamps_len]; omega
      have kp : Calls Try.prog 47 #[u5, .int .i64 4, .slice (some ⟨wr.heap.size, 0, none⟩) 2 2] (wr.alloc (.cells #[.int .u64 sec, .int .u64 nsec] 76)) _ := putlit (nb := wr.heap.size) (k := 4) (us := [sec, nsec]) rfl (.inr (.inr (.inl rfl))) (fitsIn_32 (by intro u hu; simp at hu; omega)) (by omega) (by simp) rfl rfl hs
      rw [show (rootHead ++ stamps j sec nsec) ++ [sec, nsec].flatMap (lowb 4) = rootHead ++ stamps (j + 1) sec nsec by rw [Hst.out]; simp only [List.flatMap_cons, List.flatMap_nil, List.append_nil, List.append_assoc]] at kp
      clear hs hl0
      go_wp2_with (go_at_call 47; (with_reducible refine kp.mono ?_); rintro e w10 ⟨q, rfl, v10, rfl, h10⟩)
      go_roundw
      case rel => exact ⟨j + 1, by omega, by go_num, h10⟩
      case measure => simp [intOf]; omega
    · obtain rfl : j = 3 := by omega
      have c7 := (hs.pull 2 : SatL _ (cl _ _ _ :: _)).cell (i := 7) (v := .int .i64 d) rfl
      have hl3 : (rootHead ++ stamps 3 sec nsec).length = 64 := by rw [List.length_append, rootHead_len, stamps_len]
      have kp : Calls Try.prog 47 #[u5, .int .i64 4, .slice (some ⟨wr.heap.size, 0, none⟩) 1 1] (wr.alloc (.cells #[.int .u64 d] 76)) _ := putlit (nb := wr.heap.size) (k := 4) (us := [d]) rfl (.inr (.inr (.inl rfl))) (fitsIn_32 (by intro u hu; simp at hu; omega)) (by omega) (by simp) rfl rfl hs
      rw [show [d].flatMap (lowb 4) = lowb 4 d by simp] at kp
      have hl4 : (bvs (rootHead ++ stamps 3 sec nsec ++ lowb 4 d)).length = 68 := by rw [bvs_len, List.length_append, hl3, lowb_len]
      have b8 : 0 < 1 := by omega
      have hb4 : ((bvs (rootHead ++ stamps 3 sec nsec ++ lowb 4 d)).length + 60) * 1 ≤ 140737488355328 := by rw [hl4]; omega
      have Hl4 := hid hl4
      have Hroot := hid (show rootB d sec nsec = rootHead ++ stamps 3 sec nsec ++ lowb 4 d ++ List.replicate 60 0 from rfl)
      clear hs hl3 hl4
      go_wp2_with (first
        | (go_at_call 47; (with_reducible refine kp.mono ?_); rintro e w10 ⟨q, rfl, v10, rfl, h10⟩; obtain ⟨a10, c10, rfl, _, _⟩ := Sl.valn h10 (m := 68) Hl4.out)
        | (at_builtin; refine wpList_appendz_sl rfl (.tmp 49) (.tmp 52) rfl elem_byte Try.underlying3 rfl h10 (m := 60) rfl b8 hb4 ?_; intro v11 w11 h11))
      go_ret
      refine Ret.mk ?_
      rw [Hroot.out]
      rw [← bvs_zeros, ← bvs_append] at h11
      exact ((((h11.pull 1) : SatL _ _).tail).pull 1).tail
end
end Go.Proofs.Ytgbaigbplaoeaaa
