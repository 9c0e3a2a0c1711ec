/- fill: down from a pointer to a block, taking what lacks. No condition but those that it names. -/
import Derived.Test.YtklnlomleiebaaaInoW
import Derived.Deep.CutBlock
import Derived.Deep.CutRange
namespace Go.Proofs.Ytklnlomleiebaaa
set_option linter.unusedVariables false
set_option linter.unusedSimpArgs false
open Go.RowKit
abbrev bmN (b : Nat) : Nat := (tableN b - 69) * 4096
section
variable {vb b i : Nat}
set_option maxRecDepth 100000 in
set_option maxHeartbeats 2000000 in
theorem fill_zero {w : World} {L : List HP} {s s' : Vs} {p k p' t : Nat} (hF : s.Full b i) (hp : OkP s (tableN b) b 0 p k) (hf : fillS (bmN b) 0 s p k = some (p', t, s')) (h : SatL w (FilR vb b i s :: L)) :
    Calls Try.prog 22 #[.pointer (some ⟨vb, 0, none⟩), .int .i64 p, .int .i64 0, .int .i64 k] w (Ret fun v w' => v = .tuple #[.int .i64 p', .int .i64 t, .nilIface] ∧ SatL w' (FilR vb b i s' :: L)) := by
  obtain ⟨n1, n2, n3, n4, n5, n6⟩ := FilR.nat h
  obtain ⟨hd, rfl⟩ := fillS_zero hf
  unfold dipS at hd
  by_cases e : p = 0
  · rw [if_pos e] at hd
    obtain ⟨u, hu, hh⟩ := Option.map_eq_some_iff.1 hd
    obtain ⟨u1, u2, u3⟩ := lowF_some hu
    have hub := hF.low hu
    simp only [Prod.mk.injEq] at hh
    obtain ⟨hh1, hh2⟩ := hh
    subst hh1 hh2
    have ht := fil_take h u1 u2 u3
    have hu0 := hid u1
    clear hu u1 u2 u3 hd hf hp hF
    subst e
    rw [show ((0 : Nat) : Int) = 0 from rfl]
    go_enter Try.func22, Try.ntmps22
    go_wp2_with (first
      | (go_at_call 33; (with_reducible refine ht.mono ?_); rintro e w1 ⟨v, rfl, rfl, h1⟩)
      | (refine wpList_make_sl rfl (.const (.int .i64 512)) (.const (.int .i64 512)) rfl elem_byte 512 rfl rfl h1 (by omega) (by omega) ?_; intro w2 h2; have h3 := show SatL w2 (SlB 5 _ zero512 :: _) from (by rw [zero512, SlB, bvs_zeros]; exact h2); have hput := fil_put (k := u) h3 (by omega) (by omega) zero512_len)
      | (go_at_call 20; (with_reducible refine hput.mono ?_); rintro e w3 ⟨v, rfl, rfl, h4⟩))
    go_ret3
    exact Ret.mk ⟨rfl, (h4.pull 1).tail⟩
  · rw [if_neg e] at hd
    simp only [Option.some.injEq, Prod.mk.injEq] at hd
    obtain ⟨hd1, hd2⟩ := hd
    subst hd1 hd2
    have e1 : ¬ (p : Int) = 0 := by omega
    clear hf hp hF
    go_enter Try.func22, Try.ntmps22
    go_wp2
    go_ret3
    exact Ret.mk ⟨rfl, h⟩
set_option maxRecDepth 100000 in
set_option maxHeartbeats 4000000 in
theorem fill_step {w : World} {L : List HP} {s s1 s2 s' : Vs} {d D p k p' q t : Nat} (hd : d ≤ 2) (hD : D = d + 1) (hk : k < 128 ^ D) (hF : s.Full b i) (hp : OkP s (tableN b) b (d + 1) p k) (hdip : dipS (bmN b) s p = some (p', s1))
    (hs' : s' = if q = ptrN (s1.D p') (k / 128 ^ d) then s2 else s2.put p' (setP (s1.D p') (k / 128 ^ d) q)) (hq32 : q < 4294967296)
    (ih : ∀ (w : World) (L : List HP), SatL w (FilR vb b i s1 :: L) → Calls Try.prog 22 #[.pointer (some ⟨vb, 0, none⟩), .int .i64 (ptrN (s1.D p') (k / 128 ^ d) : Nat), .int .i64 d, .int .i64 (k % 128 ^ d : Nat)] w (Ret fun v w' => v = .tuple #[.int .i64 q, .int .i64 t, .nilIface] ∧ SatL w' (FilR vb b i s2 :: L)))
    (h : SatL w (FilR vb b i s :: L)) :
    Calls Try.prog 22 #[.pointer (some ⟨vb, 0, none⟩), .int .i64 p, .int .i64 D, .int .i64 k] w (Ret fun v w' => v = .tuple #[.int .i64 p', .int .i64 t, .nilIface] ∧ SatL w' (FilR vb b i s' :: L)) := by
  obtain ⟨n1, n2, n3, n4, n5, n6⟩ := FilR.nat h
  obtain ⟨p1, p2, p3, hF1, hz, hnz⟩ := dipS_ok hF (by omega) hp.root hdip
  have hsz : 0 < 128 ^ d := Nat.pow_pos (by omega)
  have hkk : k / 128 ^ d < 128 := by
    rw [Nat.div_lt_iff_lt_mul hsz, Nat.mul_comm]
    rw [hD, Nat.pow_succ] at hk
    exact hk
  have hszb : 128 ^ d ≤ 128 ^ 2 := Nat.pow_le_pow_right (by omega) hd
  have hspan := fun w => span_ok (d := d) (by omega) w
  have hk2 : k < 2097152 := Nat.lt_of_lt_of_le hk (by rw [hD]; exact Nat.le_trans (Nat.pow_le_pow_right (by omega) (show d + 1 ≤ 3 by omega)) (by decide))
  generalize 128 ^ d = sz at *
  have hW := ptrsN_get (s1.D p') hkk
  have hWl := ptrN_lt (s1.D p') (k / sz)
  have hsetp : rowB ((ptrsN (s1.D p')).set (k / sz) q) = setP (s1.D p') (k / sz) q := rfl
  have hrl : ∀ x ∈ (ptrsN (s1.D p')).set (k / sz) q, x < 4294967296 := fun x hx => by
    rcases List.mem_or_eq_of_mem_set hx with h | rfl
    · exact ptrsN_lt _ x h
    · exact hq32
  have hpl := setP_len (s1.D p') (k / sz) q
  generalize setP (s1.D p') (k / sz) q = SP at *
  generalize ptrN (s1.D p') (k / sz) = W at *
  have hdd : (D : Int) - 1 = d := by omega
  have hd0 : ¬ (D : Int) = 0 := by omega
  have Hs' := hid hs'
  have Hp1 := hid p1
  have Hp2 := hid p2
  have Hp3 := hid p3
  have Hk := hid hk
  have HF := hid hF
  have Hdip := hid hdip
  have Hp := hid hp
  have Hz := hid hz
  have Hnz := hid hnz
  have Hsz := hid hszb
  have Hpl := hid hpl
  have Hsp := hid hsetp
  have Hrl := hid hrl
  have Hih := hid ih
  have Hn2 := hid n2
  have HD := hid hD
  clear hs' p1 p2 p3 hk hF hdip hp hz hnz hszb hF1 hpl hsetp hrl ih n2 n3 n4 hD
  have n1' := hid n1
  go_enter Try.func22, Try.ntmps22
  go_upto_if 21 with fail
  go_cut [1, 11, 12] from 20 to 36 (fun v1 _ _ wx => v1 = .int .i64 (p' : Int) ∧ SatL wx (FilR vb b i s1 :: L))
  case first =>
    have hdip := Hdip.out
    unfold dipS at hdip
    by_cases e : p = 0
    · rw [if_pos e] at hdip
      obtain ⟨u, hu, hh⟩ := Option.map_eq_some_iff.1 hdip
      obtain ⟨u1, u2, u3⟩ := lowF_some hu
      have hub := HF.out.low hu
      simp only [Prod.mk.injEq] at hh
      obtain ⟨hh1, hh2⟩ := hh
      subst hh1
      have ht := fil_take h u1 u2 u3
      have n2 := Hn2.out
      have hu0 := hid u1
      have HH := hid hh2
      clear hu u1 u2 u3 hdip hh2
      subst e
      go_wp2_with (first
        | (go_at_call 33; (with_reducible refine ht.mono ?_); rintro e w1 ⟨v, rfl, rfl, h1⟩)
        | (refine wpList_make_sl rfl (.const (.int .i64 512)) (.const (.int .i64 512)) rfl elem_byte 512 rfl rfl h1 (by omega) (by omega) ?_; intro w2 h2; have h3 := show SatL w2 (SlB 5 _ zero512 :: _) from (by rw [zero512, SlB, bvs_zeros]; exact h2); have hput := fil_put (k := u) h3 (by omega) (by omega) zero512_len)
        | (go_at_call 20; (with_reducible refine hput.mono ?_); rintro e w3 ⟨v, rfl, rfl, h4⟩))
      go_meet
      exact ⟨rfl, by rw [← HH.out]; exact (h4.pull 1).tail⟩
    · rw [if_neg e] at hdip
      simp only [Option.some.injEq, Prod.mk.injEq] at hdip
      obtain ⟨hd1, hd2⟩ := hdip
      have HH := hid hd2
      subst hd1
      clear hd2
      have e1 : ¬ (p : Int) = 0 := by omega
      go_wp2
      go_meet
      exact ⟨rfl, by rw [← HH.out]; exact h⟩
  case rest =>
  obtain ⟨rfl, h1⟩ := hcut
  have hget := fil_get (k := p') h1 Hp1.out Hp2.out
  have hlen := FilR.len h1 Hp1.out Hp2.out
  have ek : wrap64 ((k : Int) / (sz : Int)) = ((k / sz : Nat) : Int) := by
    rw [← Int.natCast_ediv]
    refine IntWalk.wrap64_in _ ?_
    clear Hih Hrl Hsp hW hget hspan
    generalize k / sz = x at *
    omega
  have ei : 0 ≤ (k : Int) / (sz : Int) ∧ (k : Int) / (sz : Int) < 128 := by
    rw [← Int.natCast_ediv]
    clear Hih Hrl Hsp hW hget hspan ek
    generalize k / sz = x at *
    omega
  have et : ((k : Int) / (sz : Int)).toNat = k / sz := by rw [← Int.natCast_ediv]; rfl
  have HW := hid hW
  have Hspan := hid hspan
  have Hget := hid hget
  have Hlen := hid hlen
  clear h hW hspan hget hlen
  by_cases hqw : q = W
  · have Hr := hid (show s' = s2 by rw [Hs'.out, if_pos hqw])
    subst hqw
    go_wp2_with (first
      | (go_at_call 16; (with_reducible refine Hget.out.mono ?_); rintro e w2 ⟨v, rfl, dv, rfl, h2⟩; have hptr := hid (pointers_ok Hlen.out h2 (fun w h => SlB.rd h)))
      | (go_at_call 34; (with_reducible refine hptr.out.mono ?_); rintro e w3 ⟨lv, rfl, h3⟩; obtain ⟨la, lc, rfl, lc1, lc2⟩ := Sl.valn h3 (m := 128) (by rw [pvs_len, ptrsN_len]); obtain ⟨lb, off, rfl⟩ := Sl.addr h3 (by omega); have c0 := Sl.cell h3 (pvs_get (i := k / sz) (by rw [ptrsN_len]; exact hkk)); rw [HW.out] at c0; have hrec := Hih.out _ _ (h3.pull 2); rw [Int.natCast_emod] at hrec; have Hrec := hid hrec; clear hrec)
      | (go_at_call 35; (with_reducible refine (Hspan.out _).mono ?_); rintro e w4 ⟨rfl, rfl⟩)
      | (go_at_call 22; (with_reducible refine Hrec.out.mono ?_); rintro e w5 ⟨v, rfl, rfl, h5⟩))
    go_ret3
    exact Ret.mk ⟨rfl, by rw [Hr.out]; exact (h5.bring [1, 2]).tail.tail⟩
  · have Hr := hid (show s' = s2.put p' SP by rw [Hs'.out, if_neg hqw])
    have hqi : ¬ (q : Int) = (W : Int) := by omega
    go_wp2_with (first
      | (go_at_call 16; (with_reducible refine Hget.out.mono ?_); rintro e w2 ⟨v, rfl, dv, rfl, h2⟩; have hptr := hid (pointers_ok Hlen.out h2 (fun w h => SlB.rd h)))
      | (go_at_call 34; (with_reducible refine hptr.out.mono ?_); rintro e w3 ⟨lv, rfl, h3⟩; obtain ⟨la, lc, rfl, lc1, lc2⟩ := Sl.valn h3 (m := 128) (by rw [pvs_len, ptrsN_len]); obtain ⟨lb, off, rfl⟩ := Sl.addr h3 (by omega); have c0 := Sl.cell h3 (pvs_get (i := k / sz) (by rw [ptrsN_len]; exact hkk)); rw [HW.out] at c0; have hrec := Hih.out _ _ (h3.pull 2); rw [Int.natCast_emod] at hrec; have Hrec := hid hrec; clear hrec)
      | (go_at_call 35; (with_reducible refine (Hspan.out _).mono ?_); rintro e w4 ⟨rfl, rfl⟩)
      | (go_at_call 22; (with_reducible refine Hrec.out.mono ?_); rintro e w5 ⟨v, rfl, rfl, h5⟩; have h6 := Sl.set (h5.pull 1) (i := k / sz) (by rw [pvs_len, ptrsN_len]; exact hkk) (.int .i64 (q : Int)); rw [pvs_set] at h6; have c5 := Sl.cell (h5.pull 1) (pvs_get (i := k / sz) (by rw [ptrsN_len]; exact hkk)); have f5 := Sl.free (h5.pull 1) (off + k / sz); have hrow := hid (row_ok (by rw [List.length_set, ptrsN_len]) Hrl.out h6); have H6 := hid h6; clear h6)
      | (go_at_call 36; (with_reducible refine hrow.out.mono ?_); rintro e w7 ⟨rv, rfl, h7⟩; rw [Hsp.out] at h7; have hput := fil_put (k := p') (h7.bring [0, 2]) Hp1.out Hp2.out Hpl.out)
      | (go_at_call 20; (with_reducible refine hput.mono ?_); rintro e w8 ⟨v, rfl, rfl, h8⟩))
    go_ret3
    exact Ret.mk ⟨rfl, by rw [Hr.out]; exact (h8.bring [1, 2, 3]).tail.tail.tail⟩
theorem fill_ok : ∀ (d : Nat), d ≤ 3 → ∀ {w : World} {L : List HP} {s s' : Vs} {p k p' t : Nat}, k < 128 ^ d → s.Full b i → OkP s (tableN b) b d p k → fillS (bmN b) d s p k = some (p', t, s') → SatL w (FilR vb b i s :: L) →
    Calls Try.prog 22 #[.pointer (some ⟨vb, 0, none⟩), .int .i64 p, .int .i64 d, .int .i64 k] w (Ret fun v w' => v = .tuple #[.int .i64 p', .int .i64 t, .nilIface] ∧ SatL w' (FilR vb b i s' :: L)) := by
  intro d
  induction d with
  | zero => intro _ w L s s' p k p' t hk hF hp hf h; exact fill_zero hF hp hf h
  | succ d ih =>
    intro hd w L s s' p k p' t hk hF hp hf h
    obtain ⟨n1, n2, n3, n4, n5, n6⟩ := FilR.nat h
    obtain ⟨s1, q, s2, h1, h2, h3⟩ := fillS_succ hf
    have hok := dipS_ok hF (by omega) hp.root h1
    have hq := fillS_ok (by omega) d hok.2.2.2.1 (hp.dip hF (by omega) h1) h2
    have hmod : k % 128 ^ d < 128 ^ d := Nat.mod_lt _ (Nat.pow_pos (by omega))
    exact fill_step (by omega) rfl hk hF hp h1 h3 (by omega) (fun w L h => ih (by omega) hmod hok.2.2.2.1 (hp.dip hF (by omega) h1) h2 h) h
end
end Go.Proofs.Ytklnlomleiebaaa
