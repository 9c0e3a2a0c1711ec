/- Write lays bytes into a file. No condition but those that it names. -/
import Derived.Test.YtklnlomleiebaaaInoF
import Derived.Test.YtklnlomleiebaaaInoX
import Derived.Test.YtklnlomleiebaaaRegE
namespace Go.Proofs.Ytklnlomleiebaaa
set_option linter.unusedVariables false
set_option linter.unusedSimpArgs false
open Go.RowKit
theorem writeS_nil (n m : Nat) (s : Vs) (P : List Nat) (z a : Nat) : writeS n m s P z a [] = some (P, z, s) := by
  cases m with
  | zero => rfl
  | succ m => rw [writeS, if_pos rfl]
theorem writeS_step {n m : Nat} {s : Vs} {P : List Nat} {z a : Nat} {dd : List UInt8} {R : List Nat × Nat × Vs} (hd : dd ≠ []) (h : writeS n (m + 1) s P z a dd = some R) :
    ∃ p t s1, fillS n (wayN (a / 512)).2.1 s (P.getD (wayN (a / 512)).1 0) (wayN (a / 512)).2.2 = some (p, t, s1) ∧
      writeS n m (s1.put t (patch (s1.D t) (a % 512) (dd.take (512 - a % 512)))) (P.set (wayN (a / 512)).1 p) (max z (a + min dd.length (512 - a % 512))) (a + min dd.length (512 - a % 512)) (dd.drop (512 - a % 512)) = some R := by
  rw [writeS, if_neg hd] at h
  obtain ⟨r, h1, h2⟩ := Option.bind_eq_some_iff.1 h
  exact ⟨r.1, r.2.1, r.2.2, h1, h2⟩
theorem OkW_step {n tb b m : Nat} {s : Vs} {P : List Nat} {a : Nat} {dd : List UInt8} (hd : dd ≠ []) (h : OkW n tb b (m + 1) s P a dd) :
    OkP s tb b (wayN (a / 512)).2.1 (P.getD (wayN (a / 512)).1 0) (wayN (a / 512)).2.2 ∧
      ∀ p t s', fillS n (wayN (a / 512)).2.1 s (P.getD (wayN (a / 512)).1 0) (wayN (a / 512)).2.2 = some (p, t, s') →
        OkW n tb b m (s'.put t (patch (s'.D t) (a % 512) (dd.take (512 - a % 512)))) (P.set (wayN (a / 512)).1 p) (a + min dd.length (512 - a % 512)) (dd.drop (512 - a % 512)) := h.resolve_left hd
theorem run_min {x y z : Int} (h : z = min x y) : ∀ w : World, (Builtin.min_ #[3, 3] 3 #[.int .i64 x, .int .i64 y]).run Try.prog w = .ok (.int .i64 z) w := fun w => by
  have e : (Builtin.min_ #[3, 3] 3 #[.int .i64 x, .int .i64 y]).run Try.prog w = .ok (.int .i64 (if y < x then y else x)) w := rfl
  rw [e, h]
  congr 2
  split <;> omega
theorem run_max {x y z : Int} (h : z = max x y) : ∀ w : World, (Builtin.max_ #[22, 22] 22 #[.int .u64 x, .int .u64 y]).run Try.prog w = .ok (.int .u64 z) w := fun w => by
  have e : (Builtin.max_ #[22, 22] 22 #[.int .u64 x, .int .u64 y]).run Try.prog w = .ok (.int .u64 (if x < y then y else x)) w := rfl
  rw [e, h]
  congr 2
  split <;> omega
def slLen : Value → Nat
  | .slice _ n _ => n
  | _ => 0
section
variable {vb b i : Nat}
set_option maxRecDepth 100000 in
set_option maxHeartbeats 8000000 in
theorem write_ok {w : World} {L : List HP} {s : Vs} {x : Ino} {A : Nat} {dv : Value} {dd : List UInt8} {R : List Nat × Nat × Vs} (hx : x.Ok) (hz : x.size < 18446744073709551616) (hF : s.Full b i) (hl : dd.length ≤ 8192) (hA : A + dd.length ≤ 1082199040)
    (hW : OkW (bmN b) (tableN b) b dd.length s x.ptr A dd) (hR : writeS (bmN b) dd.length s x.ptr x.size A dd = some R) (g : Gives L (RdB dv dd)) (h : SatL w (FilR vb b i s :: L)) :
    Calls Try.prog 12 #[.pointer (some ⟨vb, 0, none⟩), inoV x, .int .u64 (A : Int), dv] w (Ret fun v w' => v = .tuple #[inoV { x with ptr := R.1, size := R.2.1 }, .nilIface] ∧ SatL w' (FilR vb b i R.2.2 :: L)) := by
  obtain ⟨va, vc, hdv, hc1, hc2⟩ := (g w h.tail).valn
  have hil : (inoA x).size = 23 := inoA_size hx
  have h1 := h.alloc (.cells (inoA x) 31)
  have h2 := h1.allocN (n := w.heap.size + 1) (.cells (inoA ino0) 31) (by simp)
  have h3 := h2.swap
  have e0 : inoA ino0 = #[.int .i64 0, .int .i64 0, .int .i64 0, .int .u32 0, .int .u32 0, .int .u32 0, .int .u64 0, .int .u64 0, .int .u32 0, .int .u32 0, .int .u32 0, .int .u32 0, .int .u32 0, .int .u32 0, .int .i64 0, .int .i64 0, .int .i64 0, .int .i64 0, .int .i64 0, .int .i64 0, .int .i64 0, .int .i64 0, .int .i64 0] := rfl
  have t1 : (dd.length : Int) ≤ 8192 := by omega
  have t2 : (A : Int) ≤ 1082199040 := by omega
  have t3 : ¬ (1082199040 : Int) < A := by omega
  have t4 : ¬ (8192 : Int) < dd.length := by omega
  have t5 : ¬ (1082199040 : Int) - A < dd.length := by omega
  have t6 : IntKind.u64.wrap ((1082199040 : Int) - A) = 1082199040 - A := by rw [IntKind.wrap_u64]; omega
  have t7 : IntKind.u64.wrap (dd.length : Int) = dd.length := u64_in _ (by omega)
  subst hdv
  have HR := hid hR
  have HW := hid hW
  have HF := hid hF
  have G := hid g
  have H3 := hid h3
  have Hx := hid hx
  have HA := hid hA
  have Hz := hid hz
  rw [e0] at H3
  clear h1 h2 h3 h g hR hW hF hx hc1 hc2 hA hz e0
  unfold inoV
  generalize hX : inoA x = XA at *
  have HX := hid hX
  clear hX
  go_enter Try.func12, Try.ntmps12
  go_wp2
  generalize w.heap.size = xb at *
  go_loopw [2, 3] (fun v2 v3 wr => ∃ (m : Nat) (s : Vs) (P : List Nat) (z a : Nat) (ee : List UInt8), v2 = .int .u64 (a : Int) ∧ ee.length ≤ dd.length ∧ a + ee.length = A + dd.length ∧ Hid (ee.length ≤ m) ∧ Hid (Gives L (RdB v3 ee)) ∧ Hid (P.length = 9) ∧ z < 18446744073709551616 ∧ Hid (s.Full b i) ∧
      Hid (OkW (bmN b) (tableN b) b m s P a ee) ∧ Hid (writeS (bmN b) m s P z a ee = some R) ∧ SatL wr (cl xb 31 (inoA { x with ptr := P, size := z }) :: cl (xb + 1) 31 (inoA ino0) :: FilR vb b i s :: L)) (fun _ v3 _ => slLen v3)
  case atStart => exact ⟨dd.length, s, x.ptr, x.size, A, dd, rfl, by omega, rfl, hid (Nat.le_refl _), G, hid Hx.out.ptr, Hz.out, HF, HW, HR, by rw [HX.out]; exact H3.out⟩
  case round =>
    clear H3
    obtain ⟨m, s, P, z, a, ee, rfl, hel, hae, Hm, G3, HP, hz, HF, HW, HR, hs⟩ := hrel
    obtain ⟨sa, sc, rfl, hc1, hc2⟩ := (G3.out wr hs.tail.tail.tail).valn
    have hxo : ({ x with ptr := P, size := z } : Ino).Ok := ⟨Hx.out.tm, HP.out⟩
    by_cases he : ee = []
    · subst he
      have hR := HR.out
      rw [writeS_nil] at hR
      have eR := hid (Option.some.inj hR)
      clear hR
      have Hs := hid hs
      clear hs
      obtain ⟨uf, huf⟩ := ino_under
      go_wp2_with (first
        | (refine wpList_loadRow_cl rfl 31 (.tmp 5) rfl rfl Hs.out huf rfl (ino_size hxo) ?_)
        | (refine wpList_storeRow_cl rfl 31 (.tmp 8) (.tmp 114) rfl rfl rfl (Hs.out.pull 1) (ino_size hxo) (by rw [inoA_size ino0_ok, inoA_size hxo]) (inoA_one _) ?_; intro w9 h9))
      refine bodyPost_ret (results_cell_cl rfl rfl h9 huf rfl (ino_size hxo)) rfl (Ret.mk ⟨by rw [← eR.out]; rfl, ?_⟩)
      rw [← eR.out]
      exact (h9.bring [0, 1]).tail.tail
    · have hel0 : 0 < ee.length := List.length_pos_iff.2 he
      obtain ⟨m', rfl⟩ : ∃ m', m = m' + 1 := ⟨m - 1, by have := Hm.out; omega⟩
      obtain ⟨p, t, s1, hf, hR1⟩ := writeS_step he HR.out
      obtain ⟨hok, hW1⟩ := OkW_step he HW.out
      have hW2 := hW1 p t s1 hf
      have hq : a / 512 < 2113670 := by have := HA.out; omega
      have hel2 : ee.length < 9000 := by omega
      obtain ⟨_, _, _, b0, o0, hsa, _⟩ := RdB.at (G3.out wr hs.tail.tail.tail) hel0
      subst hsa
      have ha := HA.out
      have hway := hid (fun w => way_ok hq w)
      have hwl := wayN_lt hq
      obtain ⟨q, hqd⟩ : ∃ q, q = a / 512 := ⟨_, rfl⟩
      obtain ⟨o, hod⟩ : ∃ o, o = a % 512 := ⟨_, rfl⟩
      rw [← hqd] at hf hR1 hW2 hok hwl hway hq
      rw [← hod] at hR1 hW2
      clear hW1
      rcases hw3 : wayN q with ⟨wi, wd, wk⟩
      rw [hw3] at hf hR1 hW2 hok hwl hway
      obtain ⟨l1, l2, l3, l4⟩ := hwl
      simp only at hf hR1 hW2 hok l1 l2 l3 hway
      have ho : o < 512 := by omega
      have eo : (a : Int) % 512 = o := by omega
      have eq : (a : Int) / 512 = q := by omega
      obtain ⟨pt, hpt⟩ : ∃ pt, pt = min ee.length (512 - o) := ⟨_, rfl⟩
      rw [← hpt] at hR1 hW2
      have em := run_min (x := (ee.length : Int)) (y := 512 - (o : Int)) (z := (pt : Int)) (by omega)
      have hpt1 : 0 < pt := by omega
      have hpt2 : pt ≤ ee.length := by omega
      have hpt3 : o + pt ≤ 512 := by omega
      have htk : ee.take (512 - o) = ee.take pt := by
        rcases Nat.le_total ee.length (512 - o) with h | h
        · rw [List.take_of_length_le h, List.take_of_length_le (by omega)]
        · rw [show pt = 512 - o by omega]
      have hdr : ee.drop (512 - o) = ee.drop pt := by
        rcases Nat.le_total ee.length (512 - o) with h | h
        · rw [List.drop_of_length_le h, List.drop_of_length_le (by omega)]
        · rw [show pt = 512 - o by omega]
      rw [htk, hdr] at hR1 hW2
      have HR1 := hid hR1
      have HW2 := hid hW2
      obtain ⟨n1, n2, n3, n4, n5, n6⟩ := FilR.nat (hs.pull 2)
      have hfo := hid (fillS_ok (by omega) wd HF.out hok hf)
      have hfill := hid (fill_ok wd l2 l3 HF.out hok hf (hs.bring [2, 0, 1]))
      have cP := SatL.cell hs (inoA_ptr hxo l1)
      have Hl1 := hid l1
      have Hhq := hid hq
      have Hhqd := hid hqd
      have Hod := hid hod
      have Hpt := hid hpt
      have Hax := hid ha
      have Hl3 := hid l3
      have Hae := hid hae
      have Hel := hid hel
      have ha2 : (a : Int) ≤ 1082199040 := by omega
      clear hR1 hW2 htk hdr hf hok hs hqd hod hpt hq ha n1 n2 n3 n4 l3 hae hel hil t1 t2 t3 t4 t5 t6 t7 hw3
      clear l4
      simp only at cP
      generalize P.getD wi 0 = pp at *
      go_wp2_with (first
        | (go_at_call 21; (with_reducible refine (hway.out _).mono ?_); rintro e w1 ⟨rfl, rfl⟩)
        | (go_at_call 22; (with_reducible refine hfill.out.mono ?_); rintro e w2 ⟨v, rfl, rfl, h2⟩; have c2 := SatL.cell (h2.pull 1) (inoA_ptr hxo l1); have f2 := SatL.free (h2.pull 1) (14 + wi); have h3 := SatL.set (h2.pull 1) (i := 14 + wi) (.int .i64 (p : Int)); rw [inoA_setP hxo] at h3; have h3 := hid h3; have hlen := hid (FilR.len h2 hfo.out.2.1.1 hfo.out.2.1.2); have hget := fil_get (k := t) ((h3.out.pull 1)) hfo.out.2.1.1 hfo.out.2.1.2)
        | (go_at_call 16; (with_reducible refine hget.mono ?_); rintro e w3 ⟨v, rfl, bv, rfl, h4⟩; obtain ⟨ba, bc, rfl, bc1, bc2⟩ := Sl.valn h4 (m := 512) (by rw [bvs_len, hlen.out]); obtain ⟨bb, bo, rfl⟩ := Sl.addr h4 (by omega)))
      have h5 := sat_drew.2 h4
      have hsub := RdB.sub (G3.out _ h5.tail.tail.tail.tail) (i := 0) (j := pt) (by omega) hpt2
      have hsrc := SrcOk.ofRdB hsub
      rw [List.drop_zero, Nat.sub_zero, Nat.sub_zero, Nat.add_zero] at hsrc
      have htl : (ee.take pt).length = pt := by rw [List.length_take]; omega
      rw [htl] at hsrc
      have him : o + pt ≤ 512 := hpt3
      have hbo : ¬ bc = o := by omega
      have hoi : (o : Int) ≤ 512 := by omega
      have hon : o ≤ 512 := by omega
      have hps : pt ≤ sc := by omega
      have hpi : (pt : Int) ≤ sc := by omega
      have S0 : True := trivial
      have Hfo := hid hfo
      clear cP hway hfill hget c2 f2 hsub
      refine GoE.start (fun _ => True) 6 7 rfl (by kernel_rfl) ?_
      refine GoE.take (i := 0) (v := ?_) rfl (by decide) (by kernel_rfl) (by kernel_rfl) (by kernel_rfl) (by kernel_rfl) (fun _ _ _ h => h) (by rfl) ?_ (by assumption) ?_
      rotate_left
      · intro w hSw; (try dsimp only at hSw); go_simp; try (with_reducible rfl)
      try simp only [Act.put, List.setIfInBounds_toArray, List.set_cons_zero, List.set_cons_succ]
      refine GoE.take (i := 1) (v := ?_) rfl (by decide) (by kernel_rfl) (by kernel_rfl) (by kernel_rfl) (by kernel_rfl) (fun _ _ _ h => h) (by rfl) ?_ (by assumption) ?_
      rotate_left
      · intro w hSw; (try dsimp only at hSw); go_simp; try (with_reducible rfl)
      try simp only [Act.put, List.setIfInBounds_toArray, List.set_cons_zero, List.set_cons_succ]
      refine GoE.take (i := 2) (v := ?_) rfl (by decide) (by kernel_rfl) (by kernel_rfl) (by kernel_rfl) (by kernel_rfl) (fun _ _ _ h => h) (by rfl) ?_ (by assumption) ?_
      rotate_left
      · intro w hSw; (try dsimp only at hSw); go_simp; try (with_reducible rfl)
      try simp only [Act.put, List.setIfInBounds_toArray, List.set_cons_zero, List.set_cons_succ]
      refine GoE.take (i := 3) (v := ?_) rfl (by decide) (by kernel_rfl) (by kernel_rfl) (by kernel_rfl) (by kernel_rfl) (fun _ _ _ h => h) (by rfl) ?_ (by assumption) ?_
      rotate_left
      · intro w hSw; (try dsimp only at hSw); go_simp; try (with_reducible rfl)
      try simp only [Act.put, List.setIfInBounds_toArray, List.set_cons_zero, List.set_cons_succ]
      refine GoE.take (i := 4) (v := ?_) rfl (by decide) (by kernel_rfl) (by kernel_rfl) (by kernel_rfl) (by kernel_rfl) (fun _ _ _ h => h) (by rfl) ?_ (by assumption) ?_
      rotate_left
      · intro w hSw; (try dsimp only at hSw); go_simp; try (with_reducible rfl)
      try simp only [Act.put, List.setIfInBounds_toArray, List.set_cons_zero, List.set_cons_succ]
      refine GoE.take (i := 5) (v := ?_) rfl (by decide) (by kernel_rfl) (by kernel_rfl) (by kernel_rfl) (by kernel_rfl) (fun _ _ _ h => h) (by rfl) ?_ (by assumption) ?_
      rotate_left
      · intro w hSw; (try dsimp only at hSw); go_simp; try (with_reducible rfl)
      try simp only [Act.put, List.setIfInBounds_toArray, List.set_cons_zero, List.set_cons_succ]
      refine GoE.one (i := 6) rfl (by kernel_rfl) (fun K hK => ?_)
      refine step_copyW (i := o) (c := bc - o) rfl (.tmp 89) (.tmp 92) rfl elem_byte rfl h5 rfl hsrc (bvs_one _) him (by omega) ?_
      intro w6 h6
      refine hK.out _ _ (fun h => absurd rfl h) ?_
      clear hK K
      try simp only [Act.put, List.setIfInBounds_toArray, List.set_cons_zero, List.set_cons_succ]
      refine GoE.done (by kernel_rfl) ?_
      have hbp := bvs_patch (s1.D t) (ee.take pt) o
      rw [htl] at hbp
      rw [hbp] at h6
      have hpl : (patch (s1.D t) o (ee.take pt)).length = 512 := by rw [patch_len (by rw [htl, hlen.out]; exact hpt3), hlen.out]
      have hput := hid (fil_put (k := t) h6 Hfo.out.out.2.1.1 Hfo.out.out.2.1.2 hpl)
      obtain ⟨mz, hmz⟩ : ∃ mz, mz = max z (a + pt) := ⟨_, rfl⟩
      rw [← hmz] at HR1
      have emx := run_max (x := (z : Int)) (y := (a : Int) + pt) (z := (mz : Int)) (by omega)
      have Hmz := hid hmz
      have hmz2 : mz < 18446744073709551616 := by omega
      have ewa : IntKind.u64.wrap ((a : Int) + pt) = a + pt := by rw [IntKind.wrap_u64]; omega
      have hpe : pt ≤ ee.length := hpt2
      have hpei : (pt : Int) ≤ ee.length := by omega
      have G4 : Hid (Gives L (RdB (if sc = pt then .slice (some ⟨b0, o0, none⟩) (ee.length - pt) (sc - pt) else .slice (some ⟨b0, o0 + pt, none⟩) (ee.length - pt) (sc - pt)) (ee.drop pt))) := hid (fun w' h' => by
        have hr := RdB.sub (G3.out w' h') (i := pt) (j := ee.length) hpt2 (Nat.le_refl _)
        rw [List.take_of_length_le (Nat.le_refl _)] at hr
        by_cases e : sc = pt
        · rw [if_pos e]
          have e2 : ee.length = pt := by omega
          rw [List.drop_of_length_le (by omega)]
          exact .inr ⟨b0, o0, sc - pt, by rw [e2, Nat.sub_self]; rfl, by simp, by omega, fun k hk => absurd hk (by simp)⟩
        · rw [if_neg e]; exact hr)
      have Hel2 := hid hel2
      have Hpt1 := hid hpt1
      have Hsc : Hid (ee.length ≤ sc) := hid hc1
      clear hmz h5 hsrc htl hbp h4 h6 hpl hc1 hel2 hpt1
      by_cases e : sc = pt
      · rw [if_pos e] at G4
        subst e
        have e0 : ee.length = sc := by omega
        rw [e0, Nat.sub_self] at G4
        clear e0
        go_wp2_with (first
          | (go_at_call 20; (with_reducible refine hput.out.mono ?_); rintro e w7 ⟨v, rfl, rfl, h7⟩; have c6 := SatL.cell (h7.pull 2) (inoA_at6 _); have f6 := SatL.free (h7.pull 2) 6; have h8 := SatL.set (h7.pull 2) (i := 6) (.int .u64 (mz : Int)); rw [inoA_set6] at h8; have h8 := hid h8; clear h7 hput; simp only at c6))
        go_roundw
        case rel =>
          have q1 := Hel.out
          have q2 := Hae.out
          have q3 := Hm.out
          have q4 := Hpt1.out
          exact ⟨m', s1.put t (patch (s1.D t) o (ee.take sc)), P.set wi p, mz, a + sc, ee.drop sc, rfl, by rw [List.length_drop]; omega, by rw [List.length_drop]; omega, hid (by rw [List.length_drop]; omega), G4, hid (by rw [List.length_set]; exact HP.out), hmz2, hid (Hfo.out.out.2.2.put _ _), HW2, HR1, (SatL.bring h8.out [0, 3, 1, 2]).bring [0, 1, 2] |> fun h => (SatL.bring h [3]).tail⟩
        case measure =>
          have q4 := Hpt1.out
          simp [slLen]; omega
      · rw [if_neg e] at G4
        go_wp2_with (first
          | (go_at_call 20; (with_reducible refine hput.out.mono ?_); rintro e w7 ⟨v, rfl, rfl, h7⟩; have c6 := SatL.cell (h7.pull 2) (inoA_at6 _); have f6 := SatL.free (h7.pull 2) 6; have h8 := SatL.set (h7.pull 2) (i := 6) (.int .u64 (mz : Int)); rw [inoA_set6] at h8; have h8 := hid h8; clear h7 hput; simp only at c6))
        go_roundw
        case rel =>
          have q1 := Hel.out
          have q2 := Hae.out
          have q3 := Hm.out
          have q4 := Hpt1.out
          exact ⟨m', s1.put t (patch (s1.D t) o (ee.take pt)), P.set wi p, mz, a + pt, ee.drop pt, rfl, by rw [List.length_drop]; omega, by rw [List.length_drop]; omega, hid (by rw [List.length_drop]; omega), G4, hid (by rw [List.length_set]; exact HP.out), hmz2, hid (Hfo.out.out.2.2.put _ _), HW2, HR1, (SatL.bring h8.out [0, 3, 1, 2]).bring [0, 1, 2] |> fun h => (SatL.bring h [3]).tail⟩
        case measure =>
          have q4 := Hpt1.out
          simp [slLen]; omega
end
end Go.Proofs.Ytklnlomleiebaaa
