/- VirtqPlays: whatever both sides do, the program and the document answer alike, and all bytes lie alike. No condition. -/
import Derived.Test.YtnniipeoahpkcaaLaw3F
import Derived.Test.YtnniipeoahpkcaaVqK
namespace Go.Proofs.Ytnniipeoahpkcaa
set_option linter.unusedVariables false
set_option linter.unusedSimpArgs false
open Go.RowKit
theorem BRow.old {w0 : World} {a : Option Addr} {l : List Bf} (h : BRow a l w0) : Gives [old w0] (BRow a l) := fun w hw => by
  refine ⟨h.1, fun h0 => ?_⟩
  obtain ⟨b, o, e, hx⟩ := h.2 h0
  exact ⟨b, o, e, fun i x hi => ⟨hw.oldCell (hx i x hi).1, hw.oldCell (hx i x hi).2.1, hw.oldCell (hx i x hi).2.2⟩⟩
theorem fly_nat (d : Dr) : d.fly.map (Value.int .i64) = natV d.flyN := by unfold Dr.fly natV; rw [List.map_map]; rfl
section
variable {w : World} {L : List HP} {bb Z : Nat} {d : Dr} {r : Ring} {m : List UInt8} {T : List Nat}
theorem do_ok {kd N M : Int} {la : Option Addr} {lc : Nat} {l : List Bf} (pi : PI Z d r m) (hT : T.length ≤ 200 ∧ ∀ x ∈ T, x < 65536) (hr : (-9223372036854775808 ≤ N ∧ N ≤ 9223372036854775807) ∧ -9223372036854775808 ≤ M ∧ M ≤ 9223372036854775807) (hl : l.length ≤ 300) (hla : l.length = 0 → la = none → lc = 0) (hB : ∀ x ∈ l, x.addr ≤ 9223372036854775807) (g : Gives L (BRow la l)) (h : SatL w (BothR bb Z d r m T :: L)) :
    Calls Try.prog 19 #[.pointer (some ⟨bb, 0, none⟩), .agg #[.int .i64 kd, .int .i64 N, .int .i64 M, .slice la l.length lc]] w (Ret fun v w' => DoPost bb Z T L v w') := by
  by_cases h1 : kd = 1
  · subst h1; exact do_add pi hT hl hla hB g h
  by_cases h2 : kd = 2
  · subst h2; exact do_take pi hT h
  by_cases h3 : kd = 3
  · subst h3; exact do_give hr pi hT h
  by_cases h4 : kd = 4
  · subst h4; exact do_used pi hT h
  by_cases h5 : kd = 5
  · subst h5; exact do_poke pi hT h
  exact do_none ⟨h1, h2, h3, h4, h5⟩ pi hT h
end
set_option maxRecDepth 100000 in
set_option maxHeartbeats 16000000 in
theorem vplays_walk (a0 a1 a2 : Int) (a3 : Option Addr) (l3 c3 : Nat) (kd N M : Nat → Int) (la : Nat → Option Addr) (lc : Nat → Nat) (B : Nat → List Bf) (w : World)
    (hb : -9223372036854775808 ≤ a1 ∧ a1 ≤ 9223372036854775807) (hA : IsRow w 4 a3 l3 (fun i => [.int .i64 (kd i), .int .i64 (N i), .int .i64 (M i), .slice (la i) (B i).length (lc i)]))
    (hr : ∀ i, i < l3 → (-9223372036854775808 ≤ N i ∧ N i ≤ 9223372036854775807) ∧ -9223372036854775808 ≤ M i ∧ M i ≤ 9223372036854775807)
    (hla : ∀ i, i < l3 → (B i).length = 0 → la i = none → lc i = 0) (hB : ∀ i, i < l3 → ∀ x ∈ B i, x.addr ≤ 9223372036854775807) (hR : ∀ i, i < l3 → BRow (la i) (B i) w) :
    Calls Try.prog 5 #[.int .i64 a0, .int .i64 a1, .int .i64 a2, .slice a3 l3 c3] w (Ret fun v w' => v = .bool true ∧ SatL w' [old w]) := by
  have hk := known_ok (sat_old w)
  have hv1 := hid (fun (w : World) => vsize_ok a2 w)
  have hv2 := hid (fun (w : World) => refsize_ok a2 w)
  have hbg := hid (fun (w' : World) (L : List HP) (h : SatL w' L) => begun_ok a0 a1 a2 hb h)
  have hlm := hA.1
  have hrow := hid (fun (w' : World) (h : SatL w' [old w]) (h0 : 0 < l3) => (by
    obtain ⟨b, o, e, hx⟩ := hA.2 h0
    exact ⟨b, o, e, fun i hi => by
      have hh := (hx i hi).2
      have y0 := h.oldCell (hh 0 _ rfl)
      have y1 := h.oldCell (hh 1 _ rfl)
      have y2 := h.oldCell (hh 2 _ rfl)
      have y3 := h.oldCell (hh 3 _ rfl)
      rw [Nat.add_zero] at y0
      exact ⟨y0, y1, y2, y3⟩⟩ : ∃ b o, a3 = some ⟨b, o, none⟩ ∧ ∀ i, i < l3 → w'.cell? ⟨b, o + i * 4, none⟩ = some (.int .i64 (kd i)) ∧ w'.cell? ⟨b, o + i * 4 + 1, none⟩ = some (.int .i64 (N i)) ∧ w'.cell? ⟨b, o + i * 4 + 2, none⟩ = some (.int .i64 (M i)) ∧ w'.cell? ⟨b, o + i * 4 + 3, none⟩ = some (.slice (la i) (B i).length (lc i))))
  have Hr := hid hr
  have Hla := hid hla
  have HB := hid hB
  have HR := hid hR
  generalize lowZ a0 = Z at *
  generalize qsize a2 = qz at *
  clear hb hA hr hla hB hR
  go_enter Try.func5, Try.ntmps5
  go_upto_region 4 with (first
    | (go_at_call 7; (with_reducible refine hk.mono ?_); rintro e w1 ⟨v, rfl, rfl, h1⟩)
    | (go_at_call 9; (with_reducible refine (hv1.out _).mono ?_); rintro e w2 ⟨v, rfl, rfl, rfl⟩)
    | (go_at_call 17; (with_reducible refine (hv2.out _).mono ?_); rintro e w2 ⟨v, rfl, rfl, rfl⟩)
    | (go_at_call 18; (with_reducible refine (hbg.out _ _ h1).mono ?_); rintro e w3 ⟨v, rfl, ⟨rfl, h3⟩ | ⟨bb, d, r, m, rfl, pi, h3⟩⟩))
  · go_wp2
    go_ret
    exact Ret.mk ⟨rfl, h3⟩
  · have H3 := hid h3
    have Pi := hid pi
    clear h1 h3 hk hv1 hv2 hbg pi
    go_wp2
    go_loopw [11] (fun x wr => ∃ (i : Nat) (d : Dr) (r : Ring) (m : List UInt8) (T : List Nat), i ≤ l3 ∧ i ≤ 120 ∧ x = .int .i64 i ∧ PI Z d r m ∧ (T.length ≤ i ∧ ∀ x ∈ T, x < 65536) ∧ SatL wr (BothR bb Z d r m T :: [old w])) (fun x _ => 120 - (intOf x).toNat)
    case atStart => exact ⟨0, _, _, _, [], by omega, by omega, rfl, Pi.out, ⟨by simp, by simp⟩, H3.out⟩
    case round =>
      clear H3 Pi
      obtain ⟨i, d, r, m, T, hi, hi2, rfl, pi, hT, hs⟩ := hrel
      by_cases hgo : i < l3 ∧ i < 120
      · obtain ⟨hlt, hlt2⟩ := hgo
        have hiz : (i : Int) < l3 := by omega
        have hiz2 : (i : Int) < 120 := by omega
        obtain ⟨b, o, rfl, hx⟩ := hrow.out wr hs.tail (by omega)
        obtain ⟨e0, e1, e2, e3⟩ := hx i hlt
        clear hx
        have hcc := hid (fun (w' : World) (h : SatL w' [old w]) => (by
          obtain ⟨b', o', e, hx⟩ := hrow.out w' h (by omega)
          cases e
          exact hx i hlt : w'.cell? ⟨b, o + i * 4, none⟩ = some (.int .i64 (kd i)) ∧ w'.cell? ⟨b, o + i * 4 + 1, none⟩ = some (.int .i64 (N i)) ∧ w'.cell? ⟨b, o + i * 4 + 2, none⟩ = some (.int .i64 (M i)) ∧ w'.cell? ⟨b, o + i * 4 + 3, none⟩ = some (.slice (la i) (B i).length (lc i))))
        by_cases hbig : 300 < (B i).length
        · have hbz : (300 : Int) < (B i).length := by omega
          have Hs := hid hs
          have Pi := hid pi
          have HT := hid hT
          clear hs pi hT hcc
          go_wp2
          go_roundw
          case rel => exact ⟨i + 1, d, r, m, T, by omega, by omega, by go_num, Pi.out, ⟨by have := HT.out.1; omega, HT.out.2⟩, Hs.out⟩
          case measure => simp [intOf]; omega
        · have hbz : ¬ (300 : Int) < (B i).length := by omega
          have kdo := do_ok (kd := kd i) pi ⟨by omega, hT.2⟩ (Hr.out i hlt) (by omega) (Hla.out i hlt) (HB.out i hlt) (BRow.old (HR.out i hlt)) (sat_drew.2 hs)
          have S0 : wr.drew.cell? ⟨b, o + i * 4, none⟩ = some (.int .i64 (kd i)) ∧ wr.drew.cell? ⟨b, o + i * 4 + 1, none⟩ = some (.int .i64 (N i)) ∧ wr.drew.cell? ⟨b, o + i * 4 + 2, none⟩ = some (.int .i64 (M i)) ∧ wr.drew.cell? ⟨b, o + i * 4 + 3, none⟩ = some (.slice (la i) (B i).length (lc i)) := hcc.out _ (sat_drew.2 hs).tail
          have HT := hid hT
          clear hs pi hT
          generalize B i = Bi at *
          generalize la i = lai at *
          generalize lc i = lci at *
          generalize kd i = kdi at *
          generalize N i = Ni at *
          generalize M i = Mi at *
          go_upto_region 10 with fail
          clear e0 e1 e2 e3
          refine GoE.start (fun w' => w'.cell? ⟨b, o + i * 4, none⟩ = some (.int .i64 kdi) ∧ w'.cell? ⟨b, o + i * 4 + 1, none⟩ = some (.int .i64 Ni) ∧ w'.cell? ⟨b, o + i * 4 + 2, none⟩ = some (.int .i64 Mi) ∧ w'.cell? ⟨b, o + i * 4 + 3, none⟩ = some (.slice lai Bi.length lci)) 46 47 rfl (by kernel_rfl) ?_
          refine GoE.take (i := 0) (v := ?_) rfl (by decide) (by kernel_rfl) (by kernel_rfl) (by kernel_rfl) (by kernel_rfl) (fun _ _ _ h => h) (by rfl) ?_ (by assumption) ?_
          rotate_left
          · intro w hSw; (try dsimp only at hSw); go_simp; try (with_reducible rfl)
          try simp only [Act.put, List.setIfInBounds_toArray, List.set_cons_zero, List.set_cons_succ]
          refine GoE.take (i := 1) (v := ?_) rfl (by decide) (by kernel_rfl) (by kernel_rfl) (by kernel_rfl) (by kernel_rfl) (fun _ _ _ h => h) (by rfl) ?_ (by assumption) ?_
          rotate_left
          · intro w hSw; (try dsimp only at hSw); go_simp; try (with_reducible rfl)
          try simp only [Act.put, List.setIfInBounds_toArray, List.set_cons_zero, List.set_cons_succ]
          refine GoE.take (i := 2) (v := ?_) rfl (by decide) (by kernel_rfl) (by kernel_rfl) (by kernel_rfl) (by kernel_rfl) (fun _ _ _ h => h) (by rfl) ?_ (by assumption) ?_
          rotate_left
          · intro w hSw; (try dsimp only at hSw); go_simp; try (with_reducible rfl)
          try simp only [Act.put, List.setIfInBounds_toArray, List.set_cons_zero, List.set_cons_succ]
          refine GoE.take (i := 3) (v := ?_) rfl (by decide) (by kernel_rfl) (by kernel_rfl) (by kernel_rfl) (by kernel_rfl) (fun _ _ _ h => h) (by rfl) ?_ (by assumption) ?_
          rotate_left
          · intro w hSw; (try dsimp only at hSw); go_simp; try (with_reducible rfl)
          try simp only [Act.put, List.setIfInBounds_toArray, List.set_cons_zero, List.set_cons_succ]
          refine GoE.take (i := 4) (v := ?_) rfl (by decide) (by kernel_rfl) (by kernel_rfl) (by kernel_rfl) (by kernel_rfl) (fun _ _ _ h => h) (by rfl) ?_ (by assumption) ?_
          rotate_left
          · intro w hSw; (try dsimp only at hSw); go_simp; try (with_reducible rfl)
          try simp only [Act.put, List.setIfInBounds_toArray, List.set_cons_zero, List.set_cons_succ]
          refine GoE.one (i := 5) rfl (by kernel_rfl) (fun K hK => ?_)
          go_simp
          go_at_call 19
          (with_reducible refine kdo.mono ?_)
          rintro e w5 ⟨v, rfl, rfl, d', r', m', T', pi, hT', h5⟩
          obtain ⟨db, vb, xb, yb, mb, nb, tv, h6⟩ := sat_BothR.1 h5
          have S5 := hcc.out _ h5.tail
          obtain ⟨sb, hsb⟩ : ∃ sb : ByteArray, sb = ⟨m'.toArray⟩ := ⟨_, rfl⟩
          have Hs2 : Hid (∀ (w' : World) (X Y1 Y2 Y3 : List HP), SatL w' (cl bb 57 (bothV db vb xb yb (smV mb Z) (smV nb Z) tv).toArray :: Y1) → SatL w' (SlB 5 (smV mb Z) m' :: Y2) → SatL w' (SlB 5 (smV nb Z) m' :: Y3) → SatL w' [old w] → w'.cell? ⟨bb, 0, none⟩ = some (.pointer (some ⟨db, 0, none⟩)) ∧ w'.cell? ⟨bb, 2, none⟩ = some (.pointer (some ⟨xb, 0, none⟩)) ∧ w'.cell? ⟨bb, 4, none⟩ = some (smV mb Z) ∧ w'.cell? ⟨bb, 5, none⟩ = some (smV nb Z) ∧ (convert 24 9 (smV mb Z)).run Try.prog w' = .ok (.string sb) w' ∧ (convert 24 9 (smV nb Z)).run Try.prog w' = .ok (.string sb) w' ∧ w'.cell? ⟨b, o + i * 4, none⟩ = some (.int .i64 kdi) ∧ w'.cell? ⟨b, o + i * 4 + 1, none⟩ = some (.int .i64 Ni) ∧ w'.cell? ⟨b, o + i * 4 + 2, none⟩ = some (.int .i64 Mi) ∧ w'.cell? ⟨b, o + i * 4 + 3, none⟩ = some (.slice lai Bi.length lci)) :=
            hid (fun w' X Y1 Y2 Y3 h1 h2 h3 h4 => by
              obtain ⟨c0, c1, c2, c3, c4, c5, c6⟩ := both_cells h1
              rw [hsb]
              exact ⟨c0, c2, c4, c5, RdB.conv (SlB.rd h2), RdB.conv (SlB.rd h3), hcc.out _ h4⟩)
          have S6 := Hs2.out _ [] _ _ _ h6 (h6.pull 3) (h6.pull 6) h5.tail
          have Pi := hid pi
          have HT' := hid hT'
          have hn := pow2_le pi.dk.rg.pw
          have q1 := free_eq pi.dk (h6.pull 1)
          have q2 := reffree_eq pi.dk (h6.pull 4)
          have q3 := flying_ok (pi.ow.key pi.dk) (by omega) (h6.pull 1)
          have q4 := hid (fun (w' : World) (X : List HP) (h : SatL w' (XDrvR xb nb 0 Z Z d' :: X)) => refheads_ok hn.2 (pi.ow.key pi.dk) h)
          clear hsb pi hT' kdo hn
          go_wp2_with fail
          refine hK.out _ _ (fun _ => S5) ?_
          clear hK K
          try simp only [Act.put, List.setIfInBounds_toArray, List.set_cons_zero, List.set_cons_succ]
          refine GoE.more (fun w' => w'.cell? ⟨bb, 0, none⟩ = some (.pointer (some ⟨db, 0, none⟩)) ∧ w'.cell? ⟨bb, 2, none⟩ = some (.pointer (some ⟨xb, 0, none⟩)) ∧ w'.cell? ⟨bb, 4, none⟩ = some (smV mb Z) ∧ w'.cell? ⟨bb, 5, none⟩ = some (smV nb Z) ∧ (convert 24 9 (smV mb Z)).run Try.prog w' = .ok (.string sb) w' ∧ (convert 24 9 (smV nb Z)).run Try.prog w' = .ok (.string sb) w' ∧ w'.cell? ⟨b, o + i * 4, none⟩ = some (.int .i64 kdi) ∧ w'.cell? ⟨b, o + i * 4 + 1, none⟩ = some (.int .i64 Ni) ∧ w'.cell? ⟨b, o + i * 4 + 2, none⟩ = some (.int .i64 Mi) ∧ w'.cell? ⟨b, o + i * 4 + 3, none⟩ = some (.slice lai Bi.length lci)) (fun w h => h.2.2.2.2.2.2) ?_
          clear S0 S5
          refine GoE.take (i := 6) (v := ?_) rfl (by decide) (by kernel_rfl) (by kernel_rfl) (by kernel_rfl) (by kernel_rfl) (fun _ _ _ h => h) (by rfl) ?_ (by assumption) ?_
          rotate_left
          · intro w hSw; (try dsimp only at hSw); go_simp; try (with_reducible rfl)
          try simp only [Act.put, List.setIfInBounds_toArray, List.set_cons_zero, List.set_cons_succ]
          refine GoE.take (i := 7) (v := ?_) rfl (by decide) (by kernel_rfl) (by kernel_rfl) (by kernel_rfl) (by kernel_rfl) (fun _ _ _ h => h) (by rfl) ?_ (by assumption) ?_
          rotate_left
          · intro w hSw; (try dsimp only at hSw); go_simp; try (with_reducible rfl)
          try simp only [Act.put, List.setIfInBounds_toArray, List.set_cons_zero, List.set_cons_succ]
          refine GoE.take (i := 8) (v := ?_) rfl (by decide) (by kernel_rfl) (by kernel_rfl) (by kernel_rfl) (by kernel_rfl) (fun _ _ _ h => h) (by rfl) ?_ (by assumption) ?_
          rotate_left
          · intro w hSw; (try dsimp only at hSw); go_simp; try (with_reducible rfl)
          try simp only [Act.put, List.setIfInBounds_toArray, List.set_cons_zero, List.set_cons_succ]
          refine GoE.take (i := 9) (v := ?_) rfl (by decide) (by kernel_rfl) (by kernel_rfl) (by kernel_rfl) (by kernel_rfl) (fun _ _ _ h => h) (by rfl) ?_ (by assumption) ?_
          rotate_left
          · intro w hSw; (try dsimp only at hSw); go_simp; try (with_reducible rfl)
          try simp only [Act.put, List.setIfInBounds_toArray, List.set_cons_zero, List.set_cons_succ]
          refine GoE.take (i := 10) (v := ?_) rfl (by decide) (by kernel_rfl) (by kernel_rfl) (by kernel_rfl) (by kernel_rfl) (fun _ _ _ h => h) (by rfl) ?_ (by assumption) ?_
          rotate_left
          · intro w hSw; (try dsimp only at hSw); go_simp; try (with_reducible rfl)
          try simp only [Act.put, List.setIfInBounds_toArray, List.set_cons_zero, List.set_cons_succ]
          refine GoE.take (i := 11) (v := ?_) rfl (by decide) (by kernel_rfl) (by kernel_rfl) (by kernel_rfl) (by kernel_rfl) (fun _ _ _ h => h) (by rfl) ?_ (by assumption) ?_
          rotate_left
          · intro w hSw; (try dsimp only at hSw); go_simp; try (with_reducible rfl)
          try simp only [Act.put, List.setIfInBounds_toArray, List.set_cons_zero, List.set_cons_succ]
          refine GoE.take (i := 12) (v := ?_) rfl (by decide) (by kernel_rfl) (by kernel_rfl) (by kernel_rfl) (by kernel_rfl) (fun _ _ _ h => h) (by rfl) ?_ (by assumption) ?_
          rotate_left
          · intro w hSw; (try dsimp only at hSw); go_simp; try (with_reducible rfl)
          try simp only [Act.put, List.setIfInBounds_toArray, List.set_cons_zero, List.set_cons_succ]
          refine GoE.take (i := 13) (v := ?_) rfl (by decide) (by kernel_rfl) (by kernel_rfl) (by kernel_rfl) (by kernel_rfl) (fun _ _ _ h => h) (by rfl) ?_ (by assumption) ?_
          rotate_left
          · intro w hSw; (try dsimp only at hSw); go_simp; try (with_reducible rfl)
          try simp only [Act.put, List.setIfInBounds_toArray, List.set_cons_zero, List.set_cons_succ]
          refine GoE.take (i := 14) (v := ?_) rfl (by decide) (by kernel_rfl) (by kernel_rfl) (by kernel_rfl) (by kernel_rfl) (fun _ _ _ h => h) (by rfl) ?_ (by assumption) ?_
          rotate_left
          · intro w hSw; (try dsimp only at hSw); go_simp; try (with_reducible rfl)
          try simp only [Act.put, List.setIfInBounds_toArray, List.set_cons_zero, List.set_cons_succ]
          refine GoE.take (i := 15) (v := ?_) rfl (by decide) (by kernel_rfl) (by kernel_rfl) (by kernel_rfl) (by kernel_rfl) (fun _ _ _ h => h) (by rfl) ?_ (by assumption) ?_
          rotate_left
          · intro w hSw; (try dsimp only at hSw); go_simp; try (with_reducible rfl)
          try simp only [Act.put, List.setIfInBounds_toArray, List.set_cons_zero, List.set_cons_succ]
          refine GoE.take (i := 16) (v := ?_) rfl (by decide) (by kernel_rfl) (by kernel_rfl) (by kernel_rfl) (by kernel_rfl) (fun _ _ _ h => h) (by rfl) ?_ (by assumption) ?_
          rotate_left
          · intro w hSw; (try dsimp only at hSw); go_simp; try (with_reducible rfl)
          try simp only [Act.put, List.setIfInBounds_toArray, List.set_cons_zero, List.set_cons_succ]
          refine GoE.take (i := 17) (v := ?_) rfl (by decide) (by kernel_rfl) (by kernel_rfl) (by kernel_rfl) (by kernel_rfl) (fun _ _ _ h => h) (by rfl) ?_ (by assumption) ?_
          rotate_left
          · intro w hSw; (try dsimp only at hSw); go_simp; try (with_reducible rfl)
          try simp only [Act.put, List.setIfInBounds_toArray, List.set_cons_zero, List.set_cons_succ]
          refine GoE.take (i := 18) (v := ?_) rfl (by decide) (by kernel_rfl) (by kernel_rfl) (by kernel_rfl) (by kernel_rfl) (fun _ _ _ h => h) (by rfl) ?_ (by assumption) ?_
          rotate_left
          · intro w hSw; (try dsimp only at hSw); go_simp; try (with_reducible rfl)
          try simp only [Act.put, List.setIfInBounds_toArray, List.set_cons_zero, List.set_cons_succ]
          refine GoE.take (i := 19) (v := ?_) rfl (by decide) (by kernel_rfl) (by kernel_rfl) (by kernel_rfl) (by kernel_rfl) (fun _ _ _ h => h) (by rfl) ?_ (by assumption) ?_
          rotate_left
          · intro w hSw; (try dsimp only at hSw); go_simp; try (with_reducible rfl)
          try simp only [Act.put, List.setIfInBounds_toArray, List.set_cons_zero, List.set_cons_succ]
          refine GoE.take (i := 20) (v := ?_) rfl (by decide) (by kernel_rfl) (by kernel_rfl) (by kernel_rfl) (by kernel_rfl) (fun _ _ _ h => h) (by rfl) ?_ (by assumption) ?_
          rotate_left
          · intro w hSw; (try dsimp only at hSw); go_simp; try (with_reducible rfl)
          try simp only [Act.put, List.setIfInBounds_toArray, List.set_cons_zero, List.set_cons_succ]
          refine GoE.take (i := 21) (v := ?_) rfl (by decide) (by kernel_rfl) (by kernel_rfl) (by kernel_rfl) (by kernel_rfl) (fun _ _ _ h => h) (by rfl) ?_ (by assumption) ?_
          rotate_left
          · intro w hSw; (try dsimp only at hSw); go_simp; try (with_reducible rfl)
          try simp only [Act.put, List.setIfInBounds_toArray, List.set_cons_zero, List.set_cons_succ]
          refine GoE.take (i := 22) (v := ?_) rfl (by decide) (by kernel_rfl) (by kernel_rfl) (by kernel_rfl) (by kernel_rfl) (fun _ _ _ h => h) (by rfl) ?_ (by assumption) ?_
          rotate_left
          · intro w hSw; (try dsimp only at hSw); go_simp; try (with_reducible rfl)
          try simp only [Act.put, List.setIfInBounds_toArray, List.set_cons_zero, List.set_cons_succ]
          refine GoE.take (i := 23) (v := ?_) rfl (by decide) (by kernel_rfl) (by kernel_rfl) (by kernel_rfl) (by kernel_rfl) (fun _ _ _ h => h) (by rfl) ?_ (by assumption) ?_
          rotate_left
          · intro w hSw; (try dsimp only at hSw); go_simp; try (with_reducible rfl)
          try simp only [Act.put, List.setIfInBounds_toArray, List.set_cons_zero, List.set_cons_succ]
          refine GoE.take (i := 24) (v := ?_) rfl (by decide) (by kernel_rfl) (by kernel_rfl) (by kernel_rfl) (by kernel_rfl) (fun _ _ _ h => h) (by rfl) ?_ (by assumption) ?_
          rotate_left
          · intro w hSw; (try dsimp only at hSw); go_simp; try (with_reducible rfl)
          try simp only [Act.put, List.setIfInBounds_toArray, List.set_cons_zero, List.set_cons_succ]
          refine GoE.take (i := 26) (v := ?_) rfl (by decide) (by kernel_rfl) (by kernel_rfl) (by kernel_rfl) (by kernel_rfl) (fun _ _ _ h => h) (by rfl) ?_ (by assumption) ?_
          rotate_left
          · intro w hSw; (try dsimp only at hSw); go_simp; try (with_reducible rfl)
          try simp only [Act.put, List.setIfInBounds_toArray, List.set_cons_zero, List.set_cons_succ]
          refine GoE.take (i := 27) (v := ?_) rfl (by decide) (by kernel_rfl) (by kernel_rfl) (by kernel_rfl) (by kernel_rfl) (fun _ _ _ h => h) (by rfl) ?_ (by assumption) ?_
          rotate_left
          · intro w hSw; (try dsimp only at hSw); go_simp; try (with_reducible rfl)
          try simp only [Act.put, List.setIfInBounds_toArray, List.set_cons_zero, List.set_cons_succ]
          refine GoE.take (i := 28) (v := ?_) rfl (by decide) (by kernel_rfl) (by kernel_rfl) (by kernel_rfl) (by kernel_rfl) (fun _ _ _ h => h) (by rfl) ?_ (by assumption) ?_
          rotate_left
          · intro w hSw; (try dsimp only at hSw); go_simp; try (with_reducible rfl)
          try simp only [Act.put, List.setIfInBounds_toArray, List.set_cons_zero, List.set_cons_succ]
          refine GoE.take (i := 29) (v := ?_) rfl (by decide) (by kernel_rfl) (by kernel_rfl) (by kernel_rfl) (by kernel_rfl) (fun _ _ _ h => h) (by rfl) ?_ (by assumption) ?_
          rotate_left
          · intro w hSw; (try dsimp only at hSw); go_simp; try (with_reducible rfl)
          try simp only [Act.put, List.setIfInBounds_toArray, List.set_cons_zero, List.set_cons_succ]
          refine GoE.one (i := 25) rfl (by kernel_rfl) (fun K hK => ?_)
          go_simp
          go_at_call 16
          (with_reducible refine (q1).mono ?_)
          rintro e w6 ⟨v, rfl, rfl, rfl⟩
          go_wp2_with fail
          refine hK.out _ _ (fun _ => S6) ?_
          clear hK K
          try simp only [Act.put, List.setIfInBounds_toArray, List.set_cons_zero, List.set_cons_succ]
          refine GoE.one (i := 30) rfl (by kernel_rfl) (fun K hK => ?_)
          go_simp
          go_at_call 20
          (with_reducible refine (q2).mono ?_)
          rintro e w6 ⟨v, rfl, rfl, rfl⟩
          go_wp2_with fail
          refine hK.out _ _ (fun _ => S6) ?_
          clear hK K
          try simp only [Act.put, List.setIfInBounds_toArray, List.set_cons_zero, List.set_cons_succ]
          refine GoE.take (i := 31) (v := ?_) rfl (by decide) (by kernel_rfl) (by kernel_rfl) (by kernel_rfl) (by kernel_rfl) (fun _ _ _ h => h) (by rfl) ?_ (by assumption) ?_
          rotate_left
          · intro w hSw; (try dsimp only at hSw); go_simp; try (with_reducible rfl)
          try simp only [Act.put, List.setIfInBounds_toArray, List.set_cons_zero, List.set_cons_succ]
          refine GoE.take (i := 32) (v := ?_) rfl (by decide) (by kernel_rfl) (by kernel_rfl) (by kernel_rfl) (by kernel_rfl) (fun _ _ _ h => h) (by rfl) ?_ (by assumption) ?_
          rotate_left
          · intro w hSw; (try dsimp only at hSw); go_simp; try (with_reducible rfl)
          try simp only [Act.put, List.setIfInBounds_toArray, List.set_cons_zero, List.set_cons_succ]
          refine GoE.take (i := 33) (v := ?_) rfl (by decide) (by kernel_rfl) (by kernel_rfl) (by kernel_rfl) (by kernel_rfl) (fun _ _ _ h => h) (by rfl) ?_ (by assumption) ?_
          rotate_left
          · intro w hSw; (try dsimp only at hSw); go_simp; try (with_reducible rfl)
          try simp only [Act.put, List.setIfInBounds_toArray, List.set_cons_zero, List.set_cons_succ]
          refine GoE.take (i := 34) (v := ?_) rfl (by decide) (by kernel_rfl) (by kernel_rfl) (by kernel_rfl) (by kernel_rfl) (fun _ _ _ h => h) (by rfl) ?_ (by assumption) ?_
          rotate_left
          · intro w hSw; (try dsimp only at hSw); go_simp; try (with_reducible rfl)
          try simp only [Act.put, List.setIfInBounds_toArray, List.set_cons_zero, List.set_cons_succ]
          refine GoE.take (i := 35) (v := ?_) rfl (by decide) (by kernel_rfl) (by kernel_rfl) (by kernel_rfl) (by kernel_rfl) (fun _ _ _ h => h) (by rfl) ?_ (by assumption) ?_
          rotate_left
          · intro w hSw; (try dsimp only at hSw); go_simp; try (with_reducible rfl)
          try simp only [Act.put, List.setIfInBounds_toArray, List.set_cons_zero, List.set_cons_succ]
          refine GoE.take (i := 36) (v := ?_) rfl (by decide) (by kernel_rfl) (by kernel_rfl) (by kernel_rfl) (by kernel_rfl) (fun _ _ _ h => h) (by rfl) ?_ (by assumption) ?_
          rotate_left
          · intro w hSw; (try dsimp only at hSw); go_simp; try (with_reducible rfl)
          try simp only [Act.put, List.setIfInBounds_toArray, List.set_cons_zero, List.set_cons_succ]
          refine GoE.take (i := 37) (v := ?_) rfl (by decide) (by kernel_rfl) (by kernel_rfl) (by kernel_rfl) (by kernel_rfl) (fun _ _ _ h => h) (by rfl) ?_ (by assumption) ?_
          rotate_left
          · intro w hSw; (try dsimp only at hSw); go_simp; try (with_reducible rfl)
          try simp only [Act.put, List.setIfInBounds_toArray, List.set_cons_zero, List.set_cons_succ]
          refine GoE.take (i := 39) (v := ?_) rfl (by decide) (by kernel_rfl) (by kernel_rfl) (by kernel_rfl) (by kernel_rfl) (fun _ _ _ h => h) (by rfl) ?_ (by assumption) ?_
          rotate_left
          · intro w hSw; (try dsimp only at hSw); go_simp; try (with_reducible rfl)
          try simp only [Act.put, List.setIfInBounds_toArray, List.set_cons_zero, List.set_cons_succ]
          refine GoE.take (i := 40) (v := ?_) rfl (by decide) (by kernel_rfl) (by kernel_rfl) (by kernel_rfl) (by kernel_rfl) (fun _ _ _ h => h) (by rfl) ?_ (by assumption) ?_
          rotate_left
          · intro w hSw; (try dsimp only at hSw); go_simp; try (with_reducible rfl)
          try simp only [Act.put, List.setIfInBounds_toArray, List.set_cons_zero, List.set_cons_succ]
          refine GoE.take (i := 41) (v := ?_) rfl (by decide) (by kernel_rfl) (by kernel_rfl) (by kernel_rfl) (by kernel_rfl) (fun _ _ _ h => h) (by rfl) ?_ (by assumption) ?_
          rotate_left
          · intro w hSw; (try dsimp only at hSw); go_simp; try (with_reducible rfl)
          try simp only [Act.put, List.setIfInBounds_toArray, List.set_cons_zero, List.set_cons_succ]
          refine GoE.take (i := 42) (v := ?_) rfl (by decide) (by kernel_rfl) (by kernel_rfl) (by kernel_rfl) (by kernel_rfl) (fun _ _ _ h => h) (by rfl) ?_ (by assumption) ?_
          rotate_left
          · intro w hSw; (try dsimp only at hSw); go_simp; try (with_reducible rfl)
          try simp only [Act.put, List.setIfInBounds_toArray, List.set_cons_zero, List.set_cons_succ]
          refine GoE.one (i := 38) rfl (by kernel_rfl) (fun K hK => ?_)
          go_simp
          go_at_call 22
          (with_reducible refine (q3).mono ?_)
          rintro e w7 ⟨v, rfl, h7⟩; obtain ⟨fa, fc, rfl, _, _⟩ := Sl.valn h7 (List.length_map _); have S7 := Hs2.out _ [] _ _ _ (h7.pull 2) (h7.pull 4) (h7.pull 7) h7.tail.tail.tail.tail.tail.tail.tail.tail.tail; have k4 := q4.out _ _ (h7.pull 5)
          go_wp2_with fail
          refine hK.out _ _ (fun _ => S7) ?_
          clear hK K
          try simp only [Act.put, List.setIfInBounds_toArray, List.set_cons_zero, List.set_cons_succ]
          refine GoE.one (i := 43) rfl (by kernel_rfl) (fun K hK => ?_)
          go_simp
          go_at_call 23
          (with_reducible refine (k4).mono ?_)
          rintro e w8 ⟨v, rfl, h8⟩; have h9 : SatL w8 (Sl 3 v (d'.fly.map (Value.int .i64)) :: _) := (by rw [fly_nat]; exact h8); obtain ⟨ga, gc, rfl, _, _⟩ := Sl.valn h9 (List.length_map _); have S8 := Hs2.out _ [] _ _ _ (h8.pull 4) (h8.pull 6) (h8.pull 8) h8.tail.tail.tail.tail.tail.tail.tail.tail.tail.tail; have k5 := sameints_z (c := fc) (d := gc) (l := d'.fly) h9 (Gives.nx (Gives.nx Sl.gives_z)) Sl.gives_z
          go_wp2_with fail
          refine hK.out _ _ (fun _ => S8) ?_
          clear hK K
          try simp only [Act.put, List.setIfInBounds_toArray, List.set_cons_zero, List.set_cons_succ]
          refine GoE.one (i := 44) rfl (by kernel_rfl) (fun K hK => ?_)
          go_simp
          go_at_call 21
          (with_reducible refine (k5).mono ?_)
          rintro e wZ ⟨v, rfl, rfl, h10⟩; have S9 := Hs2.out _ [] _ _ _ (h10.pull 4) (h10.pull 6) (h10.pull 8) h10.tail.tail.tail.tail.tail.tail.tail.tail.tail.tail
          go_wp2_with fail
          refine hK.out _ _ (fun _ => S9) ?_
          clear hK K
          try simp only [Act.put, List.setIfInBounds_toArray, List.set_cons_zero, List.set_cons_succ]
          refine GoE.take (i := 45) (v := ?_) rfl (by decide) (by kernel_rfl) (by kernel_rfl) (by kernel_rfl) (by kernel_rfl) (fun _ _ _ h => h) (by rfl) ?_ (by assumption) ?_
          rotate_left
          · intro w hSw; (try dsimp only at hSw); go_simp; try (with_reducible rfl)
          try simp only [Act.put, List.setIfInBounds_toArray, List.set_cons_zero, List.set_cons_succ]
          refine GoE.one (i := 46) rfl (by kernel_rfl) (fun K hK => ?_)
          go_simp
          refine hK.out _ _ (fun h => absurd rfl h) ?_
          clear hK K
          try simp only [Act.put, List.setIfInBounds_toArray, List.set_cons_zero, List.set_cons_succ]
          refine GoE.done (by kernel_rfl) ?_
          have h11 := SatL.tail (SatL.tail (h10.bring [0, 2, 4, 3, 5, 6, 1, 7, 8, 9]))
          have H11 := hid (sat_BothR.2 ⟨db, vb, xb, yb, mb, nb, tv, h11⟩)
          clear h5 h6 h7 h8 h9 h10 h11 S6 S7 S8 S9 q1 q2 q3 k4 k5
          go_wp2
          go_roundw
          case rel => exact ⟨i + 1, d', r', m', T', by omega, by omega, by go_num, Pi.out, ⟨by have := HT.out.1; have := HT'.out.1; omega, HT'.out.2⟩, H11.out⟩
          case measure => simp [intOf]; omega
      · have Hs := hid hs.tail
        clear hs hrow
        by_cases h1 : i < l3
        · have h2 : ¬ i < 120 := fun h => hgo ⟨h1, h⟩
          have h1z : (i : Int) < l3 := by omega
          have h2z : ¬ (i : Int) < 120 := by omega
          clear hgo
          go_wp2
          go_ret
          exact Ret.mk ⟨rfl, Hs.out⟩
        · have h1z : ¬ (i : Int) < l3 := by omega
          clear hgo
          go_wp2
          go_ret
          exact Ret.mk ⟨rfl, Hs.out⟩
end Go.Proofs.Ytnniipeoahpkcaa
