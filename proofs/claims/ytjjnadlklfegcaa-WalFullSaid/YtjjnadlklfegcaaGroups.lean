/- within, groups of chapter 8's statements. No condition beside the sizes that it names. -/
import Derived.Test.YtjjnadlklfegcaaLawRecs
namespace Go.Proofs.Ytjjnadlklfegcaa
set_option linter.unusedVariables false
set_option linter.unusedSimpArgs false
open Go.RowKit

def withinI (a n : Int) : Int := if a.tmod n < 0 then a.tmod n + n else a.tmod n
theorem within_bd (a n : Int) (hn : 0 < n) : 0 ≤ withinI a n ∧ withinI a n < n := by
  unfold withinI
  have h1 := Int.tmod_lt_of_pos a hn
  have h2 : -n < a.tmod n := by
    have := Int.lt_tmod_of_pos a hn
    omega
  split <;> omega
theorem within_ok (a n : Int) (hn : 0 < n ∧ n ≤ 1000000) (w : World) : Calls Try.prog 21 #[.int .i64 a, .int .i64 n] w fun e w' => e = .returned (.int .i64 (withinI a n)) ∧ w = w' := by
  have h1 := Int.tmod_lt_of_pos a hn.1
  have h2 : -n < a.tmod n := by
    have := Int.lt_tmod_of_pos a hn.1
    omega
  have hz : (n == 0) = false := by simp; omega
  by_cases hneg : a.tmod n < 0
  · have Hq := hid (show withinI a n = a.tmod n + n by simp [withinI, hneg])
    go_enter Try.func21, Try.ntmps21
    go_wp2
    go_ret
    exact ⟨by rw [Hq.out]; rfl, rfl⟩
  · have Hq := hid (show withinI a n = a.tmod n by simp [withinI, hneg])
    go_enter Try.func21, Try.ntmps21
    go_wp2
    go_ret
    exact ⟨by rw [Hq.out]; rfl, rfl⟩
/-- where a block of a statement goes -/
def at30 (a : Int) : Nat := (withinI a 30).toNat
theorem at30_lt (a : Int) : at30 a < 30 := by have := within_bd a 30 (by omega); unfold at30; omega
theorem at30_ok (a : Int) (w : World) : Calls Try.prog 21 #[.int .i64 a, .int .i64 30] w fun e w' => e = .returned (.int .i64 (at30 a : Nat)) ∧ w = w' := by
  have := within_ok a 30 (by omega) w
  have hb := within_bd a 30 (by omega)
  rw [show ((at30 a : Nat) : Int) = withinI a 30 from Int.toNat_of_nonneg hb.1]
  exact this
/-- a group out of the first blocks of a row -/
def grpTo (A : Nat → Int) (B : Nat → Nat) : Nat → List PD
  | 0 => []
  | k + 1 => if (((70 + at30 (A k) : Nat) : Int)) ∈ (grpTo A B k).map (·.1) then grpTo A B k else grpTo A B k ++ [(((70 + at30 (A k) : Nat) : Int), putB 512 (B k))]
def GrpOk (g : List PD) : Prop := (g.map (·.1)).Nodup ∧ ∀ p ∈ g, 70 ≤ p.1 ∧ p.1 < 100 ∧ ∃ b, p.2 = putB 512 b
theorem grpTo_ok (A : Nat → Int) (B : Nat → Nat) : ∀ k, GrpOk (grpTo A B k)
  | 0 => ⟨by simp [grpTo], by simp [grpTo]⟩
  | k + 1 => by
    have ih := grpTo_ok A B k
    unfold grpTo
    split
    · exact ih
    · rename_i hn
      refine ⟨?_, fun p hp => ?_⟩
      · rw [List.map_append, List.nodup_append]
        refine ⟨ih.1, by simp, ?_⟩
        intro x hx y hy
        simp only [List.map_cons, List.map_nil, List.mem_singleton] at hy
        subst hy
        intro e
        exact hn (e ▸ hx)
      · rcases List.mem_append.1 hp with hp | hp
        · exact ih.2 p hp
        · rw [List.mem_singleton.1 hp]
          have := at30_lt (A k)
          exact ⟨by simp only; omega, by simp only; omega, B k, by dsimp only⟩
theorem grpTo_len (A : Nat → Int) (B : Nat → Nat) : ∀ k, (grpTo A B k).length ≤ k
  | 0 => by simp [grpTo]
  | k + 1 => by
    have ih := grpTo_len A B k
    unfold grpTo
    split
    · omega
    · simp; omega
def seenL (g : List PD) : List Value := (List.range 30).map fun j => Value.bool (decide (((70 + j : Nat) : Int) ∈ g.map (·.1)))
theorem seenL_len (g : List PD) : (seenL g).length = 30 := by simp [seenL]
theorem seenL_nil : List.replicate 30 (Value.bool false) = seenL [] := by
  unfold seenL
  rw [List.map_congr_left (g := fun _ => Value.bool false) (fun j _ => by simp), List.map_const', List.length_range]
theorem seenL_get {g : List PD} {j : Nat} (h : j < 30) : (seenL g)[j]? = some (.bool (decide (((70 + j : Nat) : Int) ∈ g.map (·.1)))) := by simp [seenL, h]
theorem seenL_set {g : List PD} {j : Nat} {d : List UInt8} (h : j < 30) : (seenL g).set j (.bool true) = seenL (g ++ [(((70 + j : Nat) : Int), d)]) := by
  apply List.ext_getElem?
  intro q
  rw [List.getElem?_set]
  by_cases hq : q < 30
  · rw [seenL_get hq, seenL_get hq]
    by_cases hqj : j = q
    · subst hqj; rw [if_pos rfl, if_pos (by rw [seenL_len]; exact hq)]; simp
    · rw [if_neg hqj]
      congr 2
      have : ((70 + q : Nat) : Int) ≠ ((70 + j : Nat) : Int) := by omega
      simp [this]
      omega
  · rw [List.getElem?_eq_none (by rw [seenL_len]; omega), List.getElem?_eq_none (by rw [seenL_len]; omega)]
    split
    · rw [if_neg (by rw [seenL_len]; omega)]
    · rfl
def grpsTo (n : Nat → Nat) (A : Nat → Nat → Int) (B : Nat → Nat → Nat) : Nat → List (List PD)
  | 0 => []
  | i + 1 => if grpTo (A i) (B i) (min (n i) 30) = [] then grpsTo n A B i else grpsTo n A B i ++ [grpTo (A i) (B i) (min (n i) 30)]

/-- a row of groups -/
def GrpsR (v : Value) (gs : List (Value × List Pt)) : HP := sep [Sl 25 v (gs.map (·.1)), big (fun g : Value × List Pt => PutsR g.1 g.2) gs]
def GrpsL (v : Value) (l : List (List PD)) : HP := ex fun gs => sep [pur (gs.map (fun g => pds g.2) = l), GrpsR v gs]
section
variable {w : World} {L : List HP}
theorem sat_GrpsR {v : Value} {gs : List (Value × List Pt)} : SatL w (GrpsR v gs :: L) ↔ SatL w (Sl 25 v (gs.map (·.1)) :: big (fun g : Value × List Pt => PutsR g.1 g.2) gs :: L) := by
  simp only [GrpsR, sat_sep, List.cons_append, List.nil_append]
theorem sat_GrpsL {v : Value} {l : List (List PD)} : SatL w (GrpsL v l :: L) ↔ ∃ gs, gs.map (fun g => pds g.2) = l ∧ SatL w (GrpsR v gs :: L) := by
  simp only [GrpsL, sat_ex, sat_sep, List.cons_append, List.nil_append, sat_pur]
theorem elem_puts : ElemOk Try.prog 45 25 1 24 [Value.slice none 0 0] := .of (z := .slice none 0 0) (by kernel_rfl) (by kernel_rfl) rfl rfl (by decide) (by simp [Value.oneCell'])
theorem elem_bool8 : ElemOk Try.prog 44 4 1 1 [Value.bool false] := .of (z := .bool false) (by kernel_rfl) (by kernel_rfl) rfl rfl (by decide) (by simp [Value.oneCell'])
theorem GrpsR.snoc {v' u : Value} {gs : List (Value × List Pt)} {ps : List Pt} (h : SatL w (Sl 25 v' (gs.map (·.1) ++ [u]) :: PutsR u ps :: big (fun g : Value × List Pt => PutsR g.1 g.2) gs :: L)) : SatL w (GrpsR v' (gs ++ [(u, ps)]) :: L) := by
  rw [sat_GrpsR, List.map_append]
  have h2 : SatL w (PutsR u ps :: big (fun g : Value × List Pt => PutsR g.1 g.2) (gs ++ []) :: Sl 25 v' (gs.map (·.1) ++ [u]) :: L) := by
    rw [List.append_nil]; exact h.bring [1, 2, 0]
  exact (big_mid (f := fun g : Value × List Pt => PutsR g.1 g.2) (x := (u, ps)).2 h2).swap
theorem grpsTo_len (n : Nat → Nat) (A : Nat → Nat → Int) (B : Nat → Nat → Nat) : ∀ i, (grpsTo n A B i).length ≤ i
  | 0 => by simp [grpsTo]
  | i + 1 => by
    have ih := grpsTo_len n A B i
    unfold grpsTo
    split
    · omega
    · simp; omega
abbrev BlkRows (a : Option Addr) (m : Nat) (aa : Nat → Option Addr) (nn cc : Nat → Nat) (A S : Nat → Nat → Int) (B : Nat → Nat → Nat) (w : World) : Prop :=
  IsRow w 1 a m (fun i => [.slice (aa i) (nn i) (cc i)]) ∧ ∀ i, i < m → BlkRow (aa i) (nn i) (A i) (S i) (B i) w
theorem grpTo_in {A : Nat → Int} {B : Nat → Nat} {k : Nat} (h : (((70 + at30 (A k) : Nat) : Int)) ∈ (grpTo A B k).map (·.1)) : grpTo A B (k + 1) = grpTo A B k := by
  rw [grpTo, if_pos h]
theorem grpTo_no {A : Nat → Int} {B : Nat → Nat} {k : Nat} (h : ¬ (((70 + at30 (A k) : Nat) : Int)) ∈ (grpTo A B k).map (·.1)) : grpTo A B (k + 1) = grpTo A B k ++ [(((70 + at30 (A k) : Nat) : Int), putB 512 (B k))] := by
  rw [grpTo, if_neg h]
set_option maxRecDepth 100000 in
set_option maxHeartbeats 16000000 in
theorem groups_ok {a : Option Addr} {m c : Nat} {aa : Nat → Option Addr} {nn cc : Nat → Nat} {A S : Nat → Nat → Int} {B : Nat → Nat → Nat} (hB : ∀ i k, B i k < 256) (h : SatL w L) (g : Gives L (BlkRows a m aa nn cc A S B)) :
    Calls Try.prog 19 #[.slice a m c] w (Ret fun r w' => SatL w' (GrpsL r (grpsTo nn A B (min m 5)) :: L)) := by
  go_enter Try.func19, Try.ntmps19
  go_wp2
  have h0 : SatL w (GrpsR (.slice none 0 0) [] :: L) := sat_GrpsR.2 (SlK_nil ((big_nil (f := fun g : Value × List Pt => PutsR g.1 g.2)).2 h))
  go_loopw [3, 4] (fun ov i wr => ∃ (j : Nat) (gs : List (Value × List Pt)), j ≤ m ∧ j ≤ 5 ∧ i = .int .i64 j ∧ gs.map (fun g => pds g.2) = grpsTo nn A B j ∧ SatL wr (GrpsR ov gs :: L)) (fun _ i _ => 5 - (intOf i).toNat)
  case atStart => exact ⟨0, [], by omega, by omega, rfl, rfl, h0⟩
  case round =>
    clear h0 h
    obtain ⟨i, gs, him, hi5, rfl, hgs, hs⟩ := hrel
    by_cases hgo : (i : Int) < m ∧ (i : Int) < 5
    · obtain ⟨hgo1, hgo2⟩ := hgo
      obtain ⟨b, o, rfl, _⟩ := (g wr hs.tail).1.2 (by omega)
      have hcell : ∀ (w' : World), SatL w' L → w'.cell? ⟨b, o + i, none⟩ = some (.slice (aa i) (nn i) (cc i)) := by
        intro w' h'
        obtain ⟨b', o', hbo, hc⟩ := (g w' h').1.2 (by omega)
        cases hbo
        have := (hc i (by omega)).2 0 _ rfl
        rw [Nat.mul_one, Nat.add_zero] at this
        exact this
      have hrow := fun (w' : World) (h' : SatL w' L) => (g w' h').2 i (by omega)
      have hBi := hB i
      have Hsn := hid (show grpsTo nn A B (i + 1) = if grpTo (A i) (B i) (min (nn i) 30) = [] then grpsTo nn A B i else grpsTo nn A B i ++ [grpTo (A i) (B i) (min (nn i) 30)] from rfl)
      generalize aa i = ai at *
      generalize nn i = ni at *
      generalize cc i = ci at *
      generalize A i = Ai at *
      generalize S i = Si at *
      generalize B i = Bi at *
      have Hz := hid (show List.replicate 30 (Value.bool false) = seenL (grpTo Ai Bi 0) from seenL_nil)
      have Hgs := hid hgs
      have Hg := hid g
      clear hgs g hB
      go_wp2_with (refine wpList_make_sl rfl (.const (.int .i64 30)) (.const (.int .i64 30)) rfl elem_bool8 30 rfl rfl hs (by omega) (by omega) ?_; intro w5 hs5; rw [Hz.out] at hs5)
      generalize wr.heap.size = sb at *
      have hs6 : SatL w5 (PutsR (.slice none 0 0) [] :: Sl 4 (.slice (some ⟨sb, 0, none⟩) 30 30) (seenL (grpTo Ai Bi 0)) :: GrpsR u3 gs :: L) := sat_PutsR.2 (SlK_nil ((big_nil (f := fun p : Pt => SlB 5 p.v p.d)).2 hs5))
      clear hs5 hs
      go_loopw [5, 7] (fun gv kv wr => ∃ (k : Nat) (ps : List Pt), k ≤ ni ∧ k ≤ 30 ∧ kv = .int .i64 k ∧ pds ps = grpTo Ai Bi k ∧ SatL wr (PutsR gv ps :: Sl 4 (.slice (some ⟨sb, 0, none⟩) 30 30) (seenL (grpTo Ai Bi k)) :: GrpsR u3 gs :: L)) (fun _ kv _ => 30 - (intOf kv).toNat)
      case atStart => exact ⟨0, [], by omega, by omega, rfl, rfl, hs6⟩
      case round =>
        clear hs6 Hz
        obtain ⟨k, ps, hkn, hk30, rfl, hps, hs⟩ := hrel
        have hql : ps.length ≤ k := by rw [← pds_len, hps]; exact grpTo_len _ _ _
        by_cases hgk : (k : Int) < ni ∧ (k : Int) < 30
        · obtain ⟨hgk1, hgk2⟩ := hgk
          obtain ⟨bi, oi, rfl, hc⟩ := (hrow _ hs.tail.tail.tail).2 (by omega)
          have cw := hcell _ hs.tail.tail.tail
          have d0 := (hc k (by omega)).2 0 _ rfl
          rw [Nat.add_zero] at d0
          have hd2 : ∀ (w' : World), SatL w' L → w'.cell? ⟨bi, oi + k * 3 + 2, none⟩ = some (.int .u8 (Bi k : Int)) := by
            intro w' h'
            obtain ⟨b', o', hbo, hc'⟩ := (hrow w' h').2 (by omega)
            cases hbo
            exact (hc' k (by omega)).2 2 _ rfl
          have hat := at30_ok (Ai k)
          have hal := at30_lt (Ai k)
          obtain ⟨ga, gc, rfl, q1, q2⟩ := (PutsR.rdpts hs).1.valn
          have hin := grpTo_in (A := Ai) (B := Bi) (k := k)
          have hno := grpTo_no (A := Ai) (B := Bi) (k := k)
          have hbk := hBi k
          generalize at30 (Ai k) = j at *
          generalize Bi k = bk at *
          generalize Ai k = ak at *
          have cs := Sl.cell (SatL.pull hs 1 : SatL _ (Sl _ _ _ :: _)) (seenL_get (g := grpTo Ai Bi k) hal)
          rw [Nat.zero_add] at cs
          have fs := Sl.free (SatL.pull hs 1 : SatL _ (Sl _ _ _ :: _)) j
          by_cases hmem : (((70 + j : Nat) : Int)) ∈ (grpTo Ai Bi k).map (·.1)
          · rw [decide_eq_true hmem] at cs
            have Hin := hid (hin hmem)
            have Hps := hid hps
            clear hin hno hmem hps hc hd2 hcell hrow
            go_wp2_with (go_at_call 21; (with_reducible refine (hat _).mono ?_); rintro e w3 ⟨rfl, rfl⟩)
            go_roundw
            case rel => exact ⟨k + 1, ps, by omega, by omega, by go_num, by rw [Hin.out, Hps.out], by rw [Hin.out]; exact hs⟩
            case measure => simp [intOf]; omega
          · rw [decide_eq_false hmem] at cs
            have Hno := hid (hno hmem)
            have Hps := hid hps
            have hset := Sl.set (SatL.pull hs 1 : SatL _ (Sl _ _ _ :: _)) (i := j) (by rw [seenL_len]; exact hal) (.bool true)
            rw [seenL_set (d := putB 512 bk) hal, Nat.zero_add] at hset
            clear hin hno hmem hps hc hrow
            go_upto_region 13 with (go_at_call 21; (with_reducible refine (hat _).mono ?_); rintro e w3 ⟨rfl, rfl⟩)
            generalize wr.setCell ⟨sb, j, none⟩ (.bool true) = wq at *
            have cw2 := hcell _ hset.tail.tail.tail
            have d2 := hd2 _ hset.tail.tail.tail
            have hpu := put_ok (at_ := ((70 + j : Nat) : Int)) (sz := 0) hbk hset
            rw [show putN 0 = 512 from rfl] at hpu
            have e1 : IntKind.i64.wrap ((70 : Int) + (j : Int)) = ((70 + j : Nat) : Int) := (IntWalk.i64_in _ (by omega)).trans (by omega)
            have b2 : (ps.length + 1) * 32 ≤ 140737488355328 := by omega
            have b9 : 0 < 32 := by omega
            generalize 70 + j = j7 at *
            clear cw d0 cs fs hcell hd2 hat hs
            go_wp2_with (first
              | (go_at_call 24; (with_reducible refine hpu.mono ?_); rintro e w3 ⟨v, rfl, pa, pc, rfl, q3, q4, h3⟩; have h5 := sat_PutsR.1 (SatL.pull h3 2 : SatL w3 (PutsR _ _ :: _)))
              | (at_builtin; refine wpList_pushK_sl rfl rfl (.tmp 49) (.tmp 62) rfl elem_put b9 rfl h5 rfl rfl (by simp [Value.oneCell']) b2 ?_; intro v9 w9 h10))
            go_roundw
            case rel =>
              have h14 := PutsL.snoc (ps := ps) (b := (j7 : Int)) (d := putB 512 bk) h10
              exact ⟨k + 1, ps ++ [(⟨(j7 : Int), .slice pa 512 pc, putB 512 bk⟩ : Pt)], by omega, by omega, by go_num, by rw [Hno.out, pds_snoc, Hps.out], by rw [Hno.out]; exact h14⟩
            case measure => simp [intOf]; omega
        · have hke : k = min ni 30 := by omega
          have hgk3 : ¬ (k : Int) < ni ∨ ((k : Int) < ni ∧ ¬ (k : Int) < 30) := by omega
          obtain ⟨ga, gc, rfl, q1, q2⟩ := (PutsR.rdpts hs).1.valn
          have cw := hcell _ hs.tail.tail.tail
          have hG := sat_GrpsR.1 (SatL.pull hs 2 : SatL wr (GrpsR _ _ :: _))
          have hgl : gs.length ≤ 5 := by
            have h1 := grpsTo_len nn A B i
            rw [← Hgs.out, List.length_map] at h1
            omega
          obtain ⟨oa, oc, rfl, q3, q4⟩ := Sl.valn hG (m := gs.length) (by rw [List.length_map])
          rw [← hke] at Hsn
          have hbb : ((gs.map (·.1)).length + 1) * 24 ≤ 140737488355328 := by rw [List.length_map]; omega
          have b9 : 0 < 24 := by omega
          have Hke := hid hke
          clear hke hgk hcell hrow
          by_cases hp0 : ps.length = 0
          · have he := hid (show grpsTo nn A B (i + 1) = grpsTo nn A B i by
              rw [Hsn.out, if_pos]
              rw [← hps]
              exact List.eq_nil_of_length_eq_zero (by rw [pds_len]; exact hp0))
            rw [hp0] at hs ⊢
            clear hps hp0
            rcases hgk3 with hgk | ⟨hgk1, hgk⟩
            all_goals
              go_wp2_with fail
              go_roundw
              case rel => exact ⟨i + 1, gs, by omega, by omega, by go_num, by rw [he.out, Hgs.out], hs.tail.tail⟩
              case measure => simp [intOf]; omega
          · have he := hid (show grpsTo nn A B (i + 1) = grpsTo nn A B i ++ [grpTo Ai Bi k] by
              rw [Hsn.out, if_neg]
              intro e
              rw [e] at hps
              exact hp0 (by rw [← pds_len, hps]; rfl))
            have hp1 : (0 : Int) < ps.length := by omega
            have Hps := hid hps
            clear hps hp0
            rcases hgk3 with hgk | ⟨hgk1, hgk⟩
            all_goals
              go_wp2_with (at_builtin; refine wpList_push_sl rfl (.tmp 67) (.tmp 69) rfl elem_puts b9 rfl hG rfl rfl hbb ?_; intro v9 w9 h10)
              go_roundw
              case rel =>
                have h11 := GrpsR.snoc (SatL.tail (SatL.bring h10 [3, 0, 2, 1]))
                exact ⟨i + 1, gs ++ [(.slice ga ps.length gc, ps)], by omega, by omega, by go_num, by rw [he.out, List.map_append, Hgs.out]; show _ ++ [pds ps] = _; rw [Hps.out], h11⟩
              case measure => simp [intOf]; omega
    · have Hie := hid (show i = min m 5 by omega)
      have hgo3 : ¬ (i : Int) < m ∨ ((i : Int) < m ∧ ¬ (i : Int) < 5) := by omega
      clear hgo
      rcases hgo3 with hgo | ⟨hgo1, hgo⟩
      all_goals
        go_wp2_with fail
        go_ret
        exact Ret.mk (by rw [← Hie.out]; exact sat_GrpsL.2 ⟨gs, hgs, hs⟩)
end
end Go.Proofs.Ytjjnadlklfegcaa
