/- CachePlays: the cache answers as the short one of it does. No condition. -/
import Derived.Test.YtlmjjfgnpcghgaaSameI
import Derived.Test.YtlmjjfgnpcghgaaLaw7C
import Derived.Test.YtlmjjfgnpcghgaaCacheH
namespace Go.Proofs.Ytlmjjfgnpcghgaa
set_option linter.unusedVariables false
set_option linter.unusedSimpArgs false
open Go.RowKit
theorem heldA_ints (bs : List Blk) : (bs.map fun x => Value.int .i64 x.b) = (bs.map (·.b)).map (Value.int .i64) := by rw [List.map_map]; rfl
def IntsPost (HL : List Int) (L : List HP) (v : Value) (w : World) : Prop := ∃ a c, v = .slice a HL.length c ∧ SatL w (Sl 3 (.slice a HL.length c) (HL.map (Value.int .i64)) :: L)
theorem ints_post {v : Value} {HL : List Int} {L : List HP} {w : World} (h : SatL w (Sl 3 v (HL.map (Value.int .i64)) :: L)) : IntsPost HL L v w := by
  obtain ⟨a, c, rfl, _, _⟩ := Sl.valn h (m := HL.length) (List.length_map _)
  exact ⟨a, c, rfl, h⟩
theorem cplays_calls {pb xb i : Nat} {a0 : Int} {bs : List Blk} {HL DL : List Int} (hI : BI a0 i bs) (hn : 1 ≤ a0 ∧ a0 ≤ 1024) (hH : HL = bs.map (·.b)) (hD : DL = ups (bdirty bs)) :
    Hid (∀ (w : World) (X : List HP), SatL w (CacheA pb a0 bs :: X) → Calls Try.prog 12 #[.pointer (some ⟨pb, 0, none⟩)] w (Ret (IntsPost HL (CacheA pb a0 bs :: X)))) ∧
    Hid (∀ (w : World) (X : List HP), SatL w (RCacheA xb a0 bs :: X) → Calls Try.prog 21 #[.pointer (some ⟨xb, 0, none⟩)] w (Ret (IntsPost HL (RCacheA xb a0 bs :: X)))) ∧
    Hid (∀ (w : World) (X : List HP), SatL w (CacheA pb a0 bs :: X) → Calls Try.prog 22 #[.pointer (some ⟨pb, 0, none⟩)] w (Ret (IntsPost DL (CacheA pb a0 bs :: X)))) ∧
    Hid (∀ (w : World) (X : List HP), SatL w (RCacheA xb a0 bs :: X) → Calls Try.prog 23 #[.pointer (some ⟨xb, 0, none⟩)] w (Ret (IntsPost DL (RCacheA xb a0 bs :: X)))) := by
  have hl := hI.len
  subst hH hD
  refine ⟨hid fun w X h => ?_, hid fun w X h => ?_, hid fun w X h => ?_, hid fun w X h => ?_⟩
  · refine (held_A h (by omega)).mono ?_
    rintro e w' ⟨v, he, hv⟩
    exact ⟨v, he, ints_post (by rw [← heldA_ints]; exact hv)⟩
  · refine (rheld_A h (by omega)).mono ?_
    rintro e w' ⟨v, he, hv⟩
    exact ⟨v, he, ints_post hv⟩
  · refine (dirty_A h (by omega)).mono ?_
    rintro e w' ⟨v, he, hv⟩
    exact ⟨v, he, ints_post hv⟩
  · refine (rdirty_A h (by omega) (fun x hx => (hI.ok x hx).2.1)).mono ?_
    rintro e w' ⟨v, he, hv⟩
    exact ⟨v, he, ints_post hv⟩
set_option maxRecDepth 100000 in
set_option maxHeartbeats 8000000 in
theorem cplays_walk (a0 : Int) (a1 : Option Addr) (l1 c1 : Nat) (kd N Sz : Nat → Int) (B : Nat → Nat) (w : World) (hA : IsRow w 4 a1 l1 (fun i => [.int .i64 (kd i), .int .i64 (N i), .int .i64 (Sz i), .int .u8 (B i : Int)])) (hB : ∀ i, B i < 256) :
    Calls Try.prog 5 #[.int .i64 a0, .slice a1 l1 c1] w (Ret fun v w' => v = .bool true ∧ SatL w' [old w]) := by
  have hk := known_ok (sat_old w)
  have hlm := hA.1
  have hrow := hid (fun (w' : World) (h : SatL w' [old w]) (h0 : 0 < l1) => (by
    obtain ⟨b, o, e, hx⟩ := hA.2 h0
    exact ⟨b, o, e, fun i hi => by
      have hh := (hx i hi).2
      have y0 := h.oldCell (hh 0 _ rfl)
      have y1 := h.oldCell (hh 1 _ rfl)
      have y2 := h.oldCell (hh 2 _ rfl)
      have y3 := h.oldCell (hh 3 _ rfl)
      rw [Nat.add_zero] at y0
      exact ⟨y0, y1, y2, y3⟩⟩ : ∃ b o, a1 = some ⟨b, o, none⟩ ∧ ∀ i, i < l1 → w'.cell? ⟨b, o + i * 4, none⟩ = some (.int .i64 (kd i)) ∧ w'.cell? ⟨b, o + i * 4 + 1, none⟩ = some (.int .i64 (N i)) ∧ w'.cell? ⟨b, o + i * 4 + 2, none⟩ = some (.int .i64 (Sz i)) ∧ w'.cell? ⟨b, o + i * 4 + 3, none⟩ = some (.int .u8 (B i : Int))))
  clear hA
  by_cases hn : 1 ≤ a0 ∧ a0 ≤ 1024
  case neg =>
    have hno := hid (fun (w' : World) (L : List HP) (h : SatL w' L) => new_ok a0 h)
    have hno2 := hid (fun (w' : World) => refnew_no hn w')
    have hif := hid (show a0 < 1 ∨ 1024 < a0 by omega)
    clear hn
    go_enter Try.func5, Try.ntmps5
    go_wp2_with (first
      | (go_at_call 7; (with_reducible refine hk.mono ?_); rintro e w1 ⟨v, rfl, rfl, h1⟩)
      | (go_at_call 9; (with_reducible refine (hno.out _ _ h1).mono ?_); rintro e w2 ⟨v, rfl, hv⟩; rw [if_pos hif.out] at hv; obtain ⟨rfl, h2⟩ := hv)
      | (go_at_call 18; (with_reducible refine (hno2.out _).mono ?_); rintro e w3 ⟨v, rfl, rfl, rfl⟩))
    go_ret
    exact Ret.mk ⟨rfl, h2⟩
  case pos =>
  have hnw := hid (fun (w' : World) (L : List HP) (h : SatL w' L) => new_A a0 h hn)
  have hnx := hid (fun (w' : World) (L : List HP) (h : SatL w' L) => refnew_yes hn h)
  have Hn := hid hn
  clear hn
  go_enter Try.func5, Try.ntmps5
  go_wp2_with (first
    | (go_at_call 7; (with_reducible refine hk.mono ?_); rintro e w1 ⟨v, rfl, rfl, h1⟩)
    | (go_at_call 9; (with_reducible refine (hnw.out _ _ h1).mono ?_); rintro e w2 ⟨v, rfl, pb, rfl, h2⟩)
    | (go_at_call 18; (with_reducible refine (hnx.out _ _ h2).mono ?_); rintro e w3 ⟨v, rfl, xb, rfl, h3⟩))
  have h4 : SatL w3 (CacheA pb a0 [] :: RCacheA xb a0 [] :: [old w]) := SatL.swap (RCacheA_open.2 ⟨[], rfl, h3⟩)
  clear h1 h2 h3 hk hnw hnx
  go_loopw [9] (fun x wr => ∃ (i : Nat) (bs : List Blk), i ≤ l1 ∧ i ≤ 200 ∧ x = .int .i64 i ∧ BI a0 i bs ∧ SatL wr (CacheA pb a0 bs :: RCacheA xb a0 bs :: [old w])) (fun x _ => 200 - (intOf x).toNat)
  case atStart => exact ⟨0, [], by omega, by omega, rfl, ⟨by simpa using by have := Hn.out; omega, fun x hx => by cases hx⟩, h4⟩
  case round =>
    clear h4
    obtain ⟨i, bs, hi, hi2, rfl, hI, hs⟩ := hrel
    by_cases hgo : i < l1 ∧ i < 200
    · obtain ⟨hlt, hlt2⟩ := hgo
      have hiz : (i : Int) < l1 := by omega
      have hiz2 : (i : Int) < 200 := by omega
      obtain ⟨b, o, rfl, hx⟩ := hrow.out wr hs.tail.tail (by omega)
      obtain ⟨e0, e1, e2, e3⟩ := hx i hlt
      clear hx
      have kd0 := done7_ok (kd := kd i) (N := N i) (Sz := Sz i) (hB i) Hn.out (by omega) hI hs
      clear hs hI
      go_wp2_with (first
        | (go_at_call 19; (with_reducible refine kd0.mono ?_); rintro e w4 ⟨v, rfl, rfl, bs', hI', h4⟩; obtain ⟨HL, hHL⟩ : ∃ HL, HL = bs'.map (·.b) := ⟨_, rfl⟩; obtain ⟨DL, hDL⟩ : ∃ DL, DL = ups (bdirty bs') := ⟨_, rfl⟩; have kk := cplays_calls (pb := pb) (xb := xb) hI' Hn.out hHL hDL; clear hHL hDL; have kA := kk.1.out _ _ h4; have HI' := hid hI'; clear hI')
        | (go_at_call 12; (with_reducible refine kA.mono ?_); rintro e w5 ⟨v, rfl, ha, hc, rfl, h5⟩; have kB := kk.2.1.out _ _ (h5.pull 2 : SatL w5 (RCacheA xb a0 bs' :: _)))
        | (go_at_call 21; (with_reducible refine kB.mono ?_); rintro e w6 ⟨v, rfl, hb, hd, rfl, h6⟩; have kS := sameints_z (c := hc) (d := hd) (l := HL) h6 (Gives.nx (Gives.nx Sl.gives_z)) Sl.gives_z)
        | (go_at_call 20; (with_reducible refine kS.mono ?_); rintro e w7 ⟨v, rfl, rfl, h7⟩; have h8 := SatL.tail (SatL.tail (h7.bring [0, 2, 3, 1, 4])); have kC := kk.2.2.1.out _ _ h8; clear kS)
        | (go_at_call 22; (with_reducible refine kC.mono ?_); rintro e w9 ⟨v, rfl, da, dc, rfl, h9⟩; have kD := kk.2.2.2.out _ _ (h9.pull 2 : SatL w9 (RCacheA xb a0 bs' :: _)))
        | (go_at_call 23; (with_reducible refine kD.mono ?_); rintro e w10 ⟨v, rfl, db, dd, rfl, h10⟩; have kT := sameints_z (c := dc) (d := dd) (l := DL) h10 (Gives.nx (Gives.nx Sl.gives_z)) Sl.gives_z)
        | (go_at_call 20; (with_reducible refine kT.mono ?_); rintro e w11 ⟨v, rfl, rfl, h11⟩; have h12 := SatL.tail (SatL.tail (h11.bring [0, 2, 3, 1, 4]))))
      have H12 := hid h12
      clear h4 h5 h6 h7 h8 h9 h10 h11 h12 kA kB kC kD kT kk kd0
      go_wp2
      go_roundw
      case rel => exact ⟨i + 1, bs', by omega, by omega, by go_num, HI'.out, H12.out⟩
      case measure => simp [intOf]; omega
    · have Hs := hid hs.tail.tail
      clear hs hrow hI
      by_cases h1 : i < l1
      · have h2 : ¬ i < 200 := fun h => hgo ⟨h1, h⟩
        have h1z : (i : Int) < l1 := by omega
        have h2z : ¬ (i : Int) < 200 := by omega
        clear hgo
        go_wp2
        go_ret
        exact Ret.mk ⟨rfl, Hs.out⟩
      · have h1z : ¬ (i : Int) < l1 := by omega
        clear hgo
        go_wp2
        go_ret
        exact Ret.mk ⟨rfl, Hs.out⟩
end Go.Proofs.Ytlmjjfgnpcghgaa
