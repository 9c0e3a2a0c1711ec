/- VirtqWild: in memory of any bytes a queue's device answers every call, and writes nothing outside of its queue. No condition. -/
import Derived.Test.YtnniipeoahpkcaaLawRound
import Derived.Test.YtnniipeoahpkcaaArg
namespace Go.Proofs.Ytnniipeoahpkcaa
set_option linter.unusedVariables false
set_option linter.unusedSimpArgs false
open Go.RowKit
/-- the bytes of a row that came in -/
def rowBy (n : Nat) (A : Nat → Nat) : List UInt8 := (List.range n).map fun i => byteOf (A i)
theorem rowBy_len (n : Nat) (A : Nat → Nat) : (rowBy n A).length = n := by simp [rowBy]
theorem SrcOk.ofRow8 {w : World} {a : Option Addr} {n c : Nat} {A : Nat → Nat} (h : IsRow w 1 a n (fun i => [.int .u8 (A i : Int)])) (hA : ∀ i, A i < 256) (hc : n = 0 → a = none → c = 0) : SrcOk Try.prog 24 1 w (.slice a n c) n (bvs (rowBy n A)) := by
  refine ⟨by rw [bvs_len, rowBy_len, Nat.mul_one], ?_⟩
  by_cases h0 : 0 < n
  · obtain ⟨b, o, rfl, hx⟩ := h.2 h0
    refine .inr (.inl ⟨_, _, rfl, ⟨_, Try.underlying24⟩, fun j y hy => ?_⟩)
    have hj : j < n := by have := (List.getElem?_eq_some_iff.1 hy).1; rwa [bvs_len, rowBy_len] at this
    have e : y = .int .u8 (A j : Int) := by
      unfold rowBy bvs at hy; simp [hj] at hy
      rw [← hy, bv, byteOf_nat, Nat.mod_eq_of_lt (hA j)]
    have := (hx j hj).2 0 _ rfl
    rw [Nat.mul_one, Nat.add_zero] at this
    rw [addr_add, e]; exact this
  · obtain rfl : n = 0 := by omega
    cases a with
    | none => exact .inl ⟨by rw [hc rfl rfl], rfl, _, Try.underlying24⟩
    | some a => exact .inr (.inl ⟨_, _, rfl, ⟨_, Try.underlying24⟩, fun j y hy => by simp [rowBy, bvs] at hy⟩)
theorem take_bn {r : Ring} {m : List UInt8} : (r.take m).2.base = r.base ∧ (r.take m).2.n = r.n := by
  unfold Ring.take
  split
  · exact ⟨rfl, rfl⟩
  · split <;> exact ⟨rfl, rfl⟩
theorem give_bn {r : Ring} {m : List UInt8} {h l : Int} : (r.give m h l).r.base = r.base ∧ (r.give m h l).r.n = r.n := by
  unfold Ring.give
  split <;> exact ⟨rfl, rfl⟩
/-- what holds from turn to turn -/
structure WildI (B n z : Nat) (l : List UInt8) (r : Ring) (M : List UInt8) : Prop where
  b : r.base = B
  n : r.n = n
  ok : RgOk r M.length
  ml : M.length = l.length
  out : ∀ p, p < B ∨ B + z ≤ p → M[p]? = l[p]?
theorem WildI.next {B n z : Nat} {l : List UInt8} {r : Ring} {M : List UInt8} (h : WildI B n z l r M) (hz : z = qs n) (x y : Int) : WildI B n z l ((r.take M).2.give M x y).r ((r.take M).2.give M x y).m := by
  have ok := take_keeps (m := M) h.ok
  have hg := give_keeps (h := x) (l := y) ok
  refine ⟨give_bn.1.trans (take_bn.1.trans h.b), give_bn.2.trans (take_bn.2.trans h.n), by rw [hg.2]; exact hg.1, hg.2.trans h.ml, fun p hp => ?_⟩
  rw [give_out ok (by rw [take_bn.1, take_bn.2, h.b, h.n, ← hz]; exact hp)]
  exact h.out p hp
theorem mkEmpty {w : World} {L : List HP} {T : Nat} (h : SatL w L) : SatL (w.alloc (.cells #[] T)) (SlK T 1 (.slice (some ⟨w.heap.size, 0, none⟩) 0 0) 0 [] :: L) :=
  sat_SlK.2 (.inr ⟨w.heap.size, 0, 0, #[], ⟨rfl, Nat.le_refl _, by decide, rfl, by simp, rfl⟩, h.alloc _⟩)
set_option maxRecDepth 100000 in
set_option maxHeartbeats 8000000 in
theorem wild_walk (am : Option Addr) (lm cm : Nat) (A : Nat → Nat) (a1 a2 a3 : Int) (w : World) (hA : IsRow w 1 am lm (fun i => [.int .u8 (A i : Int)])) (hA2 : ∀ i, A i < 256) (hnil : lm = 0 → am = none → cm = 0) :
    Calls Try.prog 4 #[.slice am lm cm, .int .i64 a1, .int .i64 a2, .int .i64 a3] w (Ret fun v w' => v = .bool true ∧ SatL w' [old w]) := by
  have hk := known_ok (sat_old w)
  have hlm := hA.1
  have hsrc := hid (fun (w' : World) (h : SatL w' [old w]) => SrcOk.ofRow8 (n := lm) (A := A) (c := cm) (by
    refine ⟨hlm, fun h0 => ?_⟩
    obtain ⟨b, o, e, hx⟩ := hA.2 h0
    exact ⟨b, o, e, fun i hi => ⟨(hx i hi).1, fun j v hv => h.oldCell ((hx i hi).2 j v hv)⟩⟩ : IsRow w' 1 am lm (fun i => [.int .u8 (A i : Int)])) hA2 hnil)
  clear hA hA2 hnil
  by_cases hbig : 8000 < lm
  · have hbz : (8000 : Int) < lm := by omega
    go_enter Try.func4, Try.ntmps4
    go_wp2_with (first
      | (go_at_call 7; (with_reducible refine hk.mono ?_); rintro e w1 ⟨v, rfl, rfl, h1⟩))
    go_ret
    exact Ret.mk ⟨rfl, h1⟩
  have hbz : ¬ (8000 : Int) < lm := by omega
  have hlm2 : lm ≤ 8000 := by omega
  have hw1 := hid (fun (w : World) => within_ok a2 (n := 5) (by omega) w)
  have hw2 := hid (fun (w : World) => within_ok a1 (n := 40) (by omega) w)
  have hw3 := hid (fun (w : World) => within_ok a3 (n := 100) (by omega) w)
  have hb1 := wi_lt a2 (n := 5) (by omega)
  have hb2 := wi_lt a1 (n := 40) (by omega)
  have hb3 := wi_lt a3 (n := 100) (by omega)
  simp only [show ((5 : Nat) : Int) = 5 from rfl] at hw1
  simp only [show ((40 : Nat) : Int) = 40 from rfl] at hw2
  simp only [show ((100 : Nat) : Int) = 100 from rfl] at hw3
  generalize wi a2 5 = k at *
  generalize wi a1 40 = B at *
  generalize wi a3 100 = R at *
  obtain ⟨n, hnk, hp, hn32⟩ := pow_two6 (k := k) (by omega)
  have hn := pow2_le hp
  have hq0 : qsize (n : Int) = qs n := by unfold qsize qs; rw [if_pos ⟨by omega, hp⟩]; rfl
  have hsz := hid (fun (w : World) => (by have := vsize_ok (n : Int) w; rw [hq0] at this; exact this : Calls Try.prog 9 #[.int .i64 n] w (Ret fun r w' => r = .int .i64 (qs n : Nat) ∧ w = w')))
  have hzb : qs n ≤ 10000 := by unfold qs; omega
  have hz0 : 8 ≤ qs n := by unfold qs; omega
  have hrl := rowBy_len lm A
  have bk1 := bvs_one (rowBy lm A)
  have Hp := hid hp
  have Hn := hid hn
  have hnz : (n : Int) ≤ 32 := by omega
  clear hq0 hp hn
  generalize rowBy lm A = r0 at *
  have b1 : (0 + lm) * 1 ≤ 140737488355328 := by omega
  have b2 : 0 + lm ≤ maxLen := by unfold maxLen; omega
  have bk1' := hid bk1
  have hrl' := hid hrl
  clear bk1 hrl
  go_enter Try.func4, Try.ntmps4
  go_upto_region 6 with (first
    | (go_at_call 7; (with_reducible refine hk.mono ?_); rintro e w1 ⟨v, rfl, rfl, h1⟩)
    | (go_at_call 8; (with_reducible refine (hw1.out _).mono ?_); rintro e w2 ⟨v, rfl, rfl, rfl⟩))
  clear hk hw1
  rw [hnk]
  clear hnk
  have h2 := mkEmpty (T := 5) h1
  have hs2 := hsrc.out _ h2.tail
  go_wp2_with (first
    | (go_at_call 8; (with_reducible refine (hw2.out _).mono ?_); rintro e w2 ⟨v, rfl, rfl, rfl⟩)
    | (at_builtin; refine wpList_append_sl rfl (.tmp 28) (.tmp 29) rfl elem_byte rfl h2 rfl hs2 bk1'.out b1 b2 ?_; intro v9 w9 h9 _; have h10 := Sl.ofK h9; rw [List.nil_append] at h10; obtain ⟨ma, mc, rfl, mc1, mc2⟩ := Sl.valn h10 (m := lm) (by rw [bvs_len]; exact hrl'.out)))
  have H10 := hid h10
  clear h9 h10 h2 hs2 hsrc bk1' b1 b2 h1
  go_loopw [9] (fun v wr => ∃ l : List UInt8, l.length ≤ 20000 ∧ SatL wr [SlB 5 v l, old w]) (fun v _ => 20001 - lenV v)
  case atStart => exact ⟨r0, by rw [hrl'.out]; omega, H10.out⟩
  case round =>
    clear H10 hrl'
    obtain ⟨l, hl, hs⟩ := hrel
    obtain ⟨a, c, rfl, c1, c2⟩ := SlB.valn hs
    have hlz : (l.length : Int) ≤ 20000 := by omega
    have hBz : (B : Int) < 40 := by omega
    have hqz : (qs n : Int) ≤ 10000 := by omega
    by_cases hlt : l.length < B + qs n + 16
    · have hltz : (l.length : Int) < (B : Int) + (qs n : Int) + 16 := by omega
      have bb : ((bvs l).length + 1) * 1 ≤ 140737488355328 := by rw [bvs_len]; omega
      have e165 : Value.int .u8 165 = bv 165 := rfl
      have Hc := hid (fun (w' : World) (v' : Value) (h : SatL w' [Sl 5 v' (bvs l ++ [.int .u8 165]), old w]) => (by rw [e165] at h; exact SlB.snoc h : SatL w' [SlB 5 v' (l ++ [165]), old w]))
      clear e165
      generalize qs n = z at *
      go_wp2_with (first
        | (go_at_call 9; (with_reducible refine (hsz.out _).mono ?_); rintro e w2 ⟨v, rfl, rfl, rfl⟩)
        | (at_builtin; refine wpList_push_sl rfl (.tmp 39) (.tmp 40) rfl elem_byte (by decide) rfl hs rfl rfl bb ?_; intro v2 w2 h2; have h3 := Hc.out _ _ h2; obtain ⟨ea, ec, rfl, ec1, ec2⟩ := Sl.valn h3 (m := l.length + 1) (by rw [bvs_len, List.length_append]; rfl)))
      go_roundw
      case rel => exact ⟨l ++ [165], by rw [List.length_append]; simp; omega, h3⟩
      case measure => simp [lenV]; omega
    · have hltz : ¬ (l.length : Int) < (B : Int) + (qs n : Int) + 16 := by omega
      obtain ⟨mb, o, rfl⟩ := Sl.addr hs (by omega)
      have h3 := mkEmpty (T := 5) hs
      have hsr := SrcOk.ofSl (P := Try.prog) Try.underlying24 h3.tail
      rw [bvs_len] at hsr
      have b1 : (0 + l.length) * 1 ≤ 140737488355328 := by omega
      have b2 : 0 + l.length ≤ maxLen := by unfold maxLen; omega
      have hone := hid (bvs_one l)
      have hnv := hid (fun (w' : World) (L' : List HP) (h : SatL w' L') => newdev_ok (mb := mb) (o := o) (N := l.length) (c := c) (base := B) (n := n) Hp.out (by omega) (by omega) c1 h)
      have hrg : RgOk ⟨B, n, 0, 0⟩ l.length := new_rgok Hp.out (by omega)
      have Hrg := hid hrg
      have hzn : qs n = 8 + 26 * n := rfl
      have hlq : B + qs n + 16 ≤ l.length := by omega
      have hsr' := hid hsr
      have h3' := hid h3
      clear hs hsr h3 hrg hzn
      obtain ⟨z, hz⟩ : ∃ z, z = qs n := ⟨_, rfl⟩
      have Hz := hid hz
      rw [← hz] at hltz hlq hzb hz0 hqz hsz
      clear hz
      have h3 := h3'.out
      have hsr := hsr'.out
      go_upto_region 12 with (first
        | (go_at_call 9; (with_reducible refine (hsz.out _).mono ?_); rintro e w2 ⟨v, rfl, rfl, rfl⟩)
        | (at_builtin; refine wpList_append_sl rfl (.tmp 42) (.tmp 43) rfl elem_byte rfl h3 rfl hsr hone.out b1 b2 ?_; intro v4 w4 h4 _; have h5 := Sl.ofK h4; rw [List.nil_append] at h5; obtain ⟨wa, wc, rfl, wc1, wc2⟩ := SlB.valn h5)
        | (go_at_call 11; (with_reducible refine (hnv.out _ _ h5).mono ?_); rintro e w6 ⟨v, rfl, vb, rfl, h6⟩; have x1 := RdB.conv (SlB.rd (h6.pull 1 : SatL _ (SlB _ _ _ :: _))); have x2 := RdB.conv (SlB.rd (h6.pull 2 : SatL _ (SlB _ _ _ :: _)))))
      clear h4 h5 h3 hsr hsr' h3' hnv
      generalize hsb : (⟨l.toArray⟩ : ByteArray) = sb at *
      clear hsb
      go_wp2
      have H6 := hid (h6.bring [0, 2, 1])
      clear h6 x1 x2
      go_loopw [13] (fun x wr => ∃ (i : Nat) (r : Ring) (M : List UInt8), i ≤ R ∧ x = .int .i64 i ∧ WildI B n z l r M ∧ SatL wr [DevR vb mb o r, SlB 5 (.slice (some ⟨mb, o, none⟩) l.length c) M, SlB 5 (.slice wa l.length wc) l, old w]) (fun x _ => R - (intOf x).toNat)
      case atStart => exact ⟨0, _, l, by omega, rfl, ⟨rfl, rfl, Hrg.out, rfl, fun _ _ => rfl⟩, H6.out⟩
      case round =>
        clear H6
        obtain ⟨i, r, M, hi, rfl, hI, hs⟩ := hrel
        by_cases hlt : i < R
        · have q1 := take_ok hI.ok (by rw [hI.ml]; omega) hs
          have ok2 : RgOk (r.take M).2 M.length := take_keeps hI.ok
          have hiz : (i : Int) < R := by omega
          have hib : (i : Int) < 100 := by omega
          have HI := hid hI
          have q2 := hid (fun (w' : World) (h : Int) (X : List HP) (hr : -9223372036854775808 ≤ h ∧ h ≤ 9223372036854775807) (hs : SatL w' (DevR vb mb o (r.take M).2 :: SlB 5 (.slice (some ⟨mb, o, none⟩) l.length c) M :: X)) => give_ok (h := h) (l := (i : Int)) ok2 ⟨hr, by omega⟩ hs)
          rcases take_says (r := r) (m := M) with ⟨t1, t2, t3⟩ | ⟨t1, t2, t3, t4⟩
          · rw [t2, t3] at q1
            clear t2 t3 hs hI ok2
            generalize (r.take M).1.e = E at *
            have t5 : (E != 0) = true := by simpa using t1
            have t6 : (E == 0) = false := by simpa using t1
            go_wp2_with (first
              | (go_at_call 8; (with_reducible refine (hw3.out _).mono ?_); rintro e w5 ⟨v, rfl, rfl, rfl⟩)
              | (go_at_call 13; (with_reducible refine q1.mono ?_); rintro e w7 ⟨v, rfl, lv, rfl, h7⟩; obtain ⟨la, lc, rfl, lc1, lc2⟩ := SlK.valn (h7 : SatL _ (SlK _ _ _ 0 _ :: _)); have q3 := q2.out _ 0 _ (by omega) h7.tail)
              | (go_at_call 14; (with_reducible refine q3.mono ?_); rintro e w8 ⟨v, rfl, rfl, h8⟩))
            go_roundw
            case rel => exact ⟨i + 1, _, _, by omega, by go_num, HI.out.next Hz.out _ _, h8⟩
            case measure => simp [intOf]; omega
          · rw [t1] at q1
            have hhz : ((r.take M).1.head : Int) < n := by rw [hI.n] at t4; omega
            have hh0 : decide (((r.take M).1.head : Int) < 0) = false := by simp
            have hhn : ¬ n ≤ (r.take M).1.head := by rw [hI.n] at t4; omega
            have hl1 : ¬ ((r.take M).1.l.length : Int) < 1 := by omega
            have hl2 : ¬ (n : Int) < (r.take M).1.l.length := by rw [hI.n] at t3; omega
            have hl3 : ¬ n < (r.take M).1.l.length := by rw [hI.n] at t3; omega
            have hl4 : ¬ (r.take M).1.l.length < 1 := by omega
            have hll := hid (show (r.take M).1.l.length ≤ 1000 by rw [hI.n] at t3; omega)
            have q4 := q2.out
            clear t1 t2 t3 t4 hs hI ok2 q2
            have Hq1 := hid q1
            obtain ⟨lx, hlx⟩ : ∃ lx, (r.take M).1.l = lx := ⟨_, rfl⟩
            rw [hlx] at q1 hl1 hl2 hl3 hl4 hll
            obtain ⟨hx, hhx⟩ : ∃ hx, (r.take M).1.head = hx := ⟨_, rfl⟩
            rw [hhx] at q1 hhz hh0 hhn
            have hhz2 : ¬ (n : Int) ≤ hx := by omega
            have hq3 := hid (fun (w' : World) (X : List HP) (hs : SatL w' (DevR vb mb o (r.take M).2 :: SlB 5 (.slice (some ⟨mb, o, none⟩) l.length c) M :: X)) => q4 w' (hx : Int) X (by omega) hs)
            clear hlx hhx Hq1 q4
            go_wp2_with (first
              | (go_at_call 8; (with_reducible refine (hw3.out _).mono ?_); rintro e w5 ⟨v, rfl, rfl, rfl⟩)
              | (go_at_call 13; (with_reducible refine q1.mono ?_); rintro e w7 ⟨v, rfl, lv, rfl, h7⟩; obtain ⟨la, lc, rfl, lc1, lc2⟩ := SlK.valn (h7 : SatL _ (SlK _ _ _ lx.length _ :: _)); have q3 := hq3.out _ _ h7.tail)
              | (go_at_call 14; (with_reducible refine q3.mono ?_); rintro e w8 ⟨v, rfl, rfl, h8⟩))
            go_roundw
            case rel => exact ⟨i + 1, _, _, by omega, by go_num, HI.out.next Hz.out _ _, h8⟩
            case measure => simp [intOf]; omega
        · obtain rfl : i = R := by omega
          have HI := hid hI
          clear hI
          go_wp2_with (first
            | (go_at_call 8; (with_reducible refine (hw3.out _).mono ?_); rintro e w5 ⟨v, rfl, rfl, rfl⟩))
          have Hs := hid (show SatL wr [SlB 5 (.slice (some ⟨mb, o, none⟩) l.length c) M, SlB 5 (.slice wa l.length wc) l, old w] from SatL.tail hs)
          clear hs
          obtain ⟨wb, wo, rfl⟩ := Sl.addr (Hs.out.pull 1 : SatL wr (Sl _ _ _ :: _)) (by omega)
          have w1 : IntKind.i64.wrap ((B : Int) + (z : Int)) = (B : Int) + (z : Int) := IntWalk.i64_in _ (by omega)
          go_loopw [17] (fun x wr => ∃ j : Nat, j ≤ l.length ∧ x = .int .i64 j ∧ SatL wr [SlB 5 (.slice (some ⟨mb, o, none⟩) l.length c) M, SlB 5 (.slice (some ⟨wb, wo, none⟩) l.length wc) l, old w]) (fun x _ => l.length - (intOf x).toNat)
          case atStart => exact ⟨0, by omega, rfl, Hs.out⟩
          case round =>
            clear Hs
            obtain ⟨j, hj, rfl, hs⟩ := hrel
            by_cases hlt2 : j < l.length
            · have hjz : (j : Int) < l.length := by omega
              have sq := fun (q : Nat) => quietR (n := q) (hsz.out (wr.drewN q))
              have Hs := hid hs
              by_cases g1 : j < B
              · obtain ⟨b, hb⟩ : ∃ b, l[j]? = some b := ⟨_, List.getElem?_eq_getElem hlt2⟩
                have hb2 : M[j]? = some b := (HI.out.out j (.inl g1)).trans hb
                have k1 := Sl.cell hs (bvs_get hb2)
                have k2 := Sl.cell (hs.pull 1 : SatL wr (Sl _ _ _ :: _)) (bvs_get hb)
                have g1z : decide ((j : Int) < B) = true := by simp; omega
                clear hs hb hb2
                generalize b.toNat = bn at *
                go_wp2
                go_quiet ((go_at_call 9; (with_reducible exact sq _)))
                go_wp2
                go_roundw
                case rel => exact ⟨j + 1, by omega, by go_num, sat_dn.2 Hs.out⟩
                case measure => simp [intOf]; omega
              · have g1z : decide ((j : Int) < B) = false := by simp; omega
                by_cases g2 : B + z ≤ j
                · obtain ⟨b, hb⟩ : ∃ b, l[j]? = some b := ⟨_, List.getElem?_eq_getElem hlt2⟩
                  have hb2 : M[j]? = some b := (HI.out.out j (.inr g2)).trans hb
                  have k1 := Sl.cell hs (bvs_get hb2)
                  have k2 := Sl.cell (hs.pull 1 : SatL wr (Sl _ _ _ :: _)) (bvs_get hb)
                  have g2z : decide ((B : Int) + (z : Int) ≤ (j : Int)) = true := by simp; omega
                  clear hs hb hb2
                  generalize b.toNat = bn at *
                  go_wp2
                  go_quiet ((go_at_call 9; (with_reducible exact sq _)))
                  go_wp2
                  go_roundw
                  case rel => exact ⟨j + 1, by omega, by go_num, sat_dn.2 Hs.out⟩
                  case measure => simp [intOf]; omega
                · have g2z : decide ((B : Int) + (z : Int) ≤ (j : Int)) = false := by simp; omega
                  clear hs
                  go_wp2
                  go_quiet ((go_at_call 9; (with_reducible exact sq _)))
                  go_wp2
                  go_roundw
                  case rel => exact ⟨j + 1, by omega, by go_num, sat_dn.2 Hs.out⟩
                  case measure => simp [intOf]; omega
            · obtain rfl : j = l.length := by omega
              go_wp2
              go_ret
              exact Ret.mk ⟨rfl, SatL.tail (SatL.tail hs)⟩
end Go.Proofs.Ytnniipeoahpkcaa
