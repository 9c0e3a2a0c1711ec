/- WalOrder's walk: a group that is committed asks for its requests phase by phase, no phase begins ahead of all answers of the one before. No condition. -/
import Derived.Test.YtjjnadlklfegcaaLawRecs
import Derived.Test.YtjjnadlklfegcaaCopyPuts
import Derived.Test.YtjjnadlklfegcaaLogRd
import Derived.Test.YtjjnadlklfegcaaWalEnt7
import Derived.Test.YtjjnadlklfegcaaWalEnt3
import Derived.Test.YtjjnadlklfegcaaWalReq
namespace Go.Proofs.Ytjjnadlklfegcaa
set_option linter.unusedVariables false
set_option linter.unusedSimpArgs false
open Go.RowKit

def withinI (a n : Int) : Int := if a.tmod n < 0 then a.tmod n + n else a.tmod n
theorem within_bd (a n : Int) (hn : 0 < n) : 0 ≤ withinI a n ∧ withinI a n < n := by
  unfold withinI
  have h1 := Int.tmod_lt_of_pos a hn
  have h2 : -n < a.tmod n := by
    have := Int.lt_tmod_of_pos a hn
    omega
  split <;> omega
theorem within_ok (a n : Int) (hn : 0 < n ∧ n ≤ 1000000) (w : World) : Calls Try.prog 21 #[.int .i64 a, .int .i64 n] w fun e w' => e = .returned (.int .i64 (withinI a n)) ∧ w = w' := by
  have h1 := Int.tmod_lt_of_pos a hn.1
  have h2 : -n < a.tmod n := by
    have := Int.lt_tmod_of_pos a hn.1
    omega
  have hz : (n == 0) = false := by simp; omega
  by_cases hneg : a.tmod n < 0
  · have Hq := hid (show withinI a n = a.tmod n + n by simp [withinI, hneg])
    go_enter Try.func21, Try.ntmps21
    go_wp2
    go_ret
    exact ⟨by rw [Hq.out]; rfl, rfl⟩
  · have Hq := hid (show withinI a n = a.tmod n by simp [withinI, hneg])
    go_enter Try.func21, Try.ntmps21
    go_wp2
    go_ret
    exact ⟨by rw [Hq.out]; rfl, rfl⟩
/-- where a block of a statement goes -/
def at30 (a : Int) : Nat := (withinI a 30).toNat
theorem at30_lt (a : Int) : at30 a < 30 := by have := within_bd a 30 (by omega); unfold at30; omega
theorem at30_ok (a : Int) (w : World) : Calls Try.prog 21 #[.int .i64 a, .int .i64 30] w fun e w' => e = .returned (.int .i64 (at30 a : Nat)) ∧ w = w' := by
  have := within_ok a 30 (by omega) w
  have hb := within_bd a 30 (by omega)
  rw [show ((at30 a : Nat) : Int) = withinI a 30 from Int.toNat_of_nonneg hb.1]
  exact this
/-- a group out of the first blocks of a row -/
def grpTo (A : Nat → Int) (B : Nat → Nat) : Nat → List PD
  | 0 => []
  | k + 1 => if (((70 + at30 (A k) : Nat) : Int)) ∈ (grpTo A B k).map (·.1) then grpTo A B k else grpTo A B k ++ [(((70 + at30 (A k) : Nat) : Int), putB 512 (B k))]
def GrpOk (g : List PD) : Prop := (g.map (·.1)).Nodup ∧ ∀ p ∈ g, 70 ≤ p.1 ∧ p.1 < 100 ∧ ∃ b, p.2 = putB 512 b
theorem grpTo_ok (A : Nat → Int) (B : Nat → Nat) : ∀ k, GrpOk (grpTo A B k)
  | 0 => ⟨by simp [grpTo], by simp [grpTo]⟩
  | k + 1 => by
    have ih := grpTo_ok A B k
    unfold grpTo
    split
    · exact ih
    · rename_i hn
      refine ⟨?_, fun p hp => ?_⟩
      · rw [List.map_append, List.nodup_append]
        refine ⟨ih.1, by simp, ?_⟩
        intro x hx y hy
        simp only [List.map_cons, List.map_nil, List.mem_singleton] at hy
        subst hy
        intro e
        exact hn (e ▸ hx)
      · rcases List.mem_append.1 hp with hp | hp
        · exact ih.2 p hp
        · rw [List.mem_singleton.1 hp]
          have := at30_lt (A k)
          exact ⟨by simp only; omega, by simp only; omega, B k, by dsimp only⟩
theorem grpTo_len (A : Nat → Int) (B : Nat → Nat) : ∀ k, (grpTo A B k).length ≤ k
  | 0 => by simp [grpTo]
  | k + 1 => by
    have ih := grpTo_len A B k
    unfold grpTo
    split
    · omega
    · simp; omega
def seenL (g : List PD) : List Value := (List.range 30).map fun j => Value.bool (decide (((70 + j : Nat) : Int) ∈ g.map (·.1)))
theorem seenL_len (g : List PD) : (seenL g).length = 30 := by simp [seenL]
theorem seenL_nil : List.replicate 30 (Value.bool false) = seenL [] := by
  unfold seenL
  rw [List.map_congr_left (g := fun _ => Value.bool false) (fun j _ => by simp), List.map_const', List.length_range]
theorem seenL_get {g : List PD} {j : Nat} (h : j < 30) : (seenL g)[j]? = some (.bool (decide (((70 + j : Nat) : Int) ∈ g.map (·.1)))) := by simp [seenL, h]
theorem seenL_set {g : List PD} {j : Nat} {d : List UInt8} (h : j < 30) : (seenL g).set j (.bool true) = seenL (g ++ [(((70 + j : Nat) : Int), d)]) := by
  apply List.ext_getElem?
  intro q
  rw [List.getElem?_set]
  by_cases hq : q < 30
  · rw [seenL_get hq, seenL_get hq]
    by_cases hqj : j = q
    · subst hqj; rw [if_pos rfl, if_pos (by rw [seenL_len]; exact hq)]; simp
    · rw [if_neg hqj]
      congr 2
      have : ((70 + q : Nat) : Int) ≠ ((70 + j : Nat) : Int) := by omega
      simp [this]
      omega
  · rw [List.getElem?_eq_none (by rw [seenL_len]; omega), List.getElem?_eq_none (by rw [seenL_len]; omega)]
    split
    · rw [if_neg (by rw [seenL_len]; omega)]
    · rfl
def grpsTo (n : Nat → Nat) (A : Nat → Nat → Int) (B : Nat → Nat → Nat) : Nat → List (List PD)
  | 0 => []
  | i + 1 => if grpTo (A i) (B i) (min (n i) 30) = [] then grpsTo n A B i else grpsTo n A B i ++ [grpTo (A i) (B i) (min (n i) 30)]

/-- a row of groups -/
def GrpsR (v : Value) (gs : List (Value × List Pt)) : HP := sep [Sl 25 v (gs.map (·.1)), big (fun g : Value × List Pt => PutsR g.1 g.2) gs]
def GrpsL (v : Value) (l : List (List PD)) : HP := ex fun gs => sep [pur (gs.map (fun g => pds g.2) = l), GrpsR v gs]
section
variable {w : World} {L : List HP}
theorem sat_GrpsR {v : Value} {gs : List (Value × List Pt)} : SatL w (GrpsR v gs :: L) ↔ SatL w (Sl 25 v (gs.map (·.1)) :: big (fun g : Value × List Pt => PutsR g.1 g.2) gs :: L) := by
  simp only [GrpsR, sat_sep, List.cons_append, List.nil_append]
theorem sat_GrpsL {v : Value} {l : List (List PD)} : SatL w (GrpsL v l :: L) ↔ ∃ gs, gs.map (fun g => pds g.2) = l ∧ SatL w (GrpsR v gs :: L) := by
  simp only [GrpsL, sat_ex, sat_sep, List.cons_append, List.nil_append, sat_pur]
theorem elem_puts : ElemOk Try.prog 45 25 1 24 [Value.slice none 0 0] := .of (z := .slice none 0 0) (by kernel_rfl) (by kernel_rfl) rfl rfl (by decide) (by simp [Value.oneCell'])
theorem elem_bool8 : ElemOk Try.prog 44 4 1 1 [Value.bool false] := .of (z := .bool false) (by kernel_rfl) (by kernel_rfl) rfl rfl (by decide) (by simp [Value.oneCell'])
theorem GrpsR.snoc {v' u : Value} {gs : List (Value × List Pt)} {ps : List Pt} (h : SatL w (Sl 25 v' (gs.map (·.1) ++ [u]) :: PutsR u ps :: big (fun g : Value × List Pt => PutsR g.1 g.2) gs :: L)) : SatL w (GrpsR v' (gs ++ [(u, ps)]) :: L) := by
  rw [sat_GrpsR, List.map_append]
  have h2 : SatL w (PutsR u ps :: big (fun g : Value × List Pt => PutsR g.1 g.2) (gs ++ []) :: Sl 25 v' (gs.map (·.1) ++ [u]) :: L) := by
    rw [List.append_nil]; exact h.bring [1, 2, 0]
  exact (big_mid (f := fun g : Value × List Pt => PutsR g.1 g.2) (x := (u, ps)).2 h2).swap
theorem grpsTo_len (n : Nat → Nat) (A : Nat → Nat → Int) (B : Nat → Nat → Nat) : ∀ i, (grpsTo n A B i).length ≤ i
  | 0 => by simp [grpsTo]
  | i + 1 => by
    have ih := grpsTo_len n A B i
    unfold grpsTo
    split
    · omega
    · simp; omega
abbrev BlkRows (a : Option Addr) (m : Nat) (aa : Nat → Option Addr) (nn cc : Nat → Nat) (A S : Nat → Nat → Int) (B : Nat → Nat → Nat) (w : World) : Prop :=
  IsRow w 1 a m (fun i => [.slice (aa i) (nn i) (cc i)]) ∧ ∀ i, i < m → BlkRow (aa i) (nn i) (A i) (S i) (B i) w
theorem grpTo_in {A : Nat → Int} {B : Nat → Nat} {k : Nat} (h : (((70 + at30 (A k) : Nat) : Int)) ∈ (grpTo A B k).map (·.1)) : grpTo A B (k + 1) = grpTo A B k := by
  rw [grpTo, if_pos h]
theorem grpTo_no {A : Nat → Int} {B : Nat → Nat} {k : Nat} (h : ¬ (((70 + at30 (A k) : Nat) : Int)) ∈ (grpTo A B k).map (·.1)) : grpTo A B (k + 1) = grpTo A B k ++ [(((70 + at30 (A k) : Nat) : Int), putB 512 (B k))] := by
  rw [grpTo, if_neg h]
set_option maxRecDepth 100000 in
set_option maxHeartbeats 16000000 in
theorem groups_ok {a : Option Addr} {m c : Nat} {aa : Nat → Option Addr} {nn cc : Nat → Nat} {A S : Nat → Nat → Int} {B : Nat → Nat → Nat} (hB : ∀ i k, B i k < 256) (h : SatL w L) (g : Gives L (BlkRows a m aa nn cc A S B)) :
    Calls Try.prog 19 #[.slice a m c] w (Ret fun r w' => SatL w' (GrpsL r (grpsTo nn A B (min m 5)) :: L)) := by
  go_enter Try.func19, Try.ntmps19
  go_wp2
  have h0 : SatL w (GrpsR (.slice none 0 0) [] :: L) := sat_GrpsR.2 (SlK_nil ((big_nil (f := fun g : Value × List Pt => PutsR g.1 g.2)).2 h))
  go_loopw [3, 4] (fun ov i wr => ∃ (j : Nat) (gs : List (Value × List Pt)), j ≤ m ∧ j ≤ 5 ∧ i = .int .i64 j ∧ gs.map (fun g => pds g.2) = grpsTo nn A B j ∧ SatL wr (GrpsR ov gs :: L)) (fun _ i _ => 5 - (intOf i).toNat)
  case atStart => exact ⟨0, [], by omega, by omega, rfl, rfl, h0⟩
  case round =>
    clear h0 h
    obtain ⟨i, gs, him, hi5, rfl, hgs, hs⟩ := hrel
    by_cases hgo : (i : Int) < m ∧ (i : Int) < 5
    · obtain ⟨hgo1, hgo2⟩ := hgo
      obtain ⟨b, o, rfl, _⟩ := (g wr hs.tail).1.2 (by omega)
      have hcell : ∀ (w' : World), SatL w' L → w'.cell? ⟨b, o + i, none⟩ = some (.slice (aa i) (nn i) (cc i)) := by
        intro w' h'
        obtain ⟨b', o', hbo, hc⟩ := (g w' h').1.2 (by omega)
        cases hbo
        have := (hc i (by omega)).2 0 _ rfl
        rw [Nat.mul_one, Nat.add_zero] at this
        exact this
      have hrow := fun (w' : World) (h' : SatL w' L) => (g w' h').2 i (by omega)
      have hBi := hB i
      have Hsn := hid (show grpsTo nn A B (i + 1) = if grpTo (A i) (B i) (min (nn i) 30) = [] then grpsTo nn A B i else grpsTo nn A B i ++ [grpTo (A i) (B i) (min (nn i) 30)] from rfl)
      generalize aa i = ai at *
      generalize nn i = ni at *
      generalize cc i = ci at *
      generalize A i = Ai at *
      generalize S i = Si at *
      generalize B i = Bi at *
      have Hz := hid (show List.replicate 30 (Value.bool false) = seenL (grpTo Ai Bi 0) from seenL_nil)
      have Hgs := hid hgs
      have Hg := hid g
      clear hgs g hB
      go_wp2_with (refine wpList_make_sl rfl (.const (.int .i64 30)) (.const (.int .i64 30)) rfl elem_bool8 30 rfl rfl hs (by omega) (by omega) ?_; intro w5 hs5; rw [Hz.out] at hs5)
      generalize wr.heap.size = sb at *
      have hs6 : SatL w5 (PutsR (.slice none 0 0) [] :: Sl 4 (.slice (some ⟨sb, 0, none⟩) 30 30) (seenL (grpTo Ai Bi 0)) :: GrpsR u3 gs :: L) := sat_PutsR.2 (SlK_nil ((big_nil (f := fun p : Pt => SlB 5 p.v p.d)).2 hs5))
      clear hs5 hs
      go_loopw [5, 7] (fun gv kv wr => ∃ (k : Nat) (ps : List Pt), k ≤ ni ∧ k ≤ 30 ∧ kv = .int .i64 k ∧ pds ps = grpTo Ai Bi k ∧ SatL wr (PutsR gv ps :: Sl 4 (.slice (some ⟨sb, 0, none⟩) 30 30) (seenL (grpTo Ai Bi k)) :: GrpsR u3 gs :: L)) (fun _ kv _ => 30 - (intOf kv).toNat)
      case atStart => exact ⟨0, [], by omega, by omega, rfl, rfl, hs6⟩
      case round =>
        clear hs6 Hz
        obtain ⟨k, ps, hkn, hk30, rfl, hps, hs⟩ := hrel
        have hql : ps.length ≤ k := by rw [← pds_len, hps]; exact grpTo_len _ _ _
        by_cases hgk : (k : Int) < ni ∧ (k : Int) < 30
        · obtain ⟨hgk1, hgk2⟩ := hgk
          obtain ⟨bi, oi, rfl, hc⟩ := (hrow _ hs.tail.tail.tail).2 (by omega)
          have cw := hcell _ hs.tail.tail.tail
          have d0 := (hc k (by omega)).2 0 _ rfl
          rw [Nat.add_zero] at d0
          have hd2 : ∀ (w' : World), SatL w' L → w'.cell? ⟨bi, oi + k * 3 + 2, none⟩ = some (.int .u8 (Bi k : Int)) := by
            intro w' h'
            obtain ⟨b', o', hbo, hc'⟩ := (hrow w' h').2 (by omega)
            cases hbo
            exact (hc' k (by omega)).2 2 _ rfl
          have hat := at30_ok (Ai k)
          have hal := at30_lt (Ai k)
          obtain ⟨ga, gc, rfl, q1, q2⟩ := (PutsR.rdpts hs).1.valn
          have hin := grpTo_in (A := Ai) (B := Bi) (k := k)
          have hno := grpTo_no (A := Ai) (B := Bi) (k := k)
          have hbk := hBi k
          generalize at30 (Ai k) = j at *
          generalize Bi k = bk at *
          generalize Ai k = ak at *
          have cs := Sl.cell (SatL.pull hs 1 : SatL _ (Sl _ _ _ :: _)) (seenL_get (g := grpTo Ai Bi k) hal)
          rw [Nat.zero_add] at cs
          have fs := Sl.free (SatL.pull hs 1 : SatL _ (Sl _ _ _ :: _)) j
          by_cases hmem : (((70 + j : Nat) : Int)) ∈ (grpTo Ai Bi k).map (·.1)
          · rw [decide_eq_true hmem] at cs
            have Hin := hid (hin hmem)
            have Hps := hid hps
            clear hin hno hmem hps hc hd2 hcell hrow
            go_wp2_with (go_at_call 21; (with_reducible refine (hat _).mono ?_); rintro e w3 ⟨rfl, rfl⟩)
            go_roundw
            case rel => exact ⟨k + 1, ps, by omega, by omega, by go_num, by rw [Hin.out, Hps.out], by rw [Hin.out]; exact hs⟩
            case measure => simp [intOf]; omega
          · rw [decide_eq_false hmem] at cs
            have Hno := hid (hno hmem)
            have Hps := hid hps
            have hset := Sl.set (SatL.pull hs 1 : SatL _ (Sl _ _ _ :: _)) (i := j) (by rw [seenL_len]; exact hal) (.bool true)
            rw [seenL_set (d := putB 512 bk) hal, Nat.zero_add] at hset
            clear hin hno hmem hps hc hrow
            go_upto_region 13 with (go_at_call 21; (with_reducible refine (hat _).mono ?_); rintro e w3 ⟨rfl, rfl⟩)
            generalize wr.setCell ⟨sb, j, none⟩ (.bool true) = wq at *
            have cw2 := hcell _ hset.tail.tail.tail
            have d2 := hd2 _ hset.tail.tail.tail
            have hpu := put_ok (at_ := ((70 + j : Nat) : Int)) (sz := 0) hbk hset
            rw [show putN 0 = 512 from rfl] at hpu
            have e1 : IntKind.i64.wrap ((70 : Int) + (j : Int)) = ((70 + j : Nat) : Int) := (IntWalk.i64_in _ (by omega)).trans (by omega)
            have b2 : (ps.length + 1) * 32 ≤ 140737488355328 := by omega
            have b9 : 0 < 32 := by omega
            generalize 70 + j = j7 at *
            clear cw d0 cs fs hcell hd2 hat hs
            go_wp2_with (first
              | (go_at_call 24; (with_reducible refine hpu.mono ?_); rintro e w3 ⟨v, rfl, pa, pc, rfl, q3, q4, h3⟩; have h5 := sat_PutsR.1 (SatL.pull h3 2 : SatL w3 (PutsR _ _ :: _)))
              | (at_builtin; refine wpList_pushK_sl rfl rfl (.tmp 49) (.tmp 62) rfl elem_put b9 rfl h5 rfl rfl (by simp [Value.oneCell']) b2 ?_; intro v9 w9 h10))
            go_roundw
            case rel =>
              have h14 := PutsL.snoc (ps := ps) (b := (j7 : Int)) (d := putB 512 bk) h10
              exact ⟨k + 1, ps ++ [(⟨(j7 : Int), .slice pa 512 pc, putB 512 bk⟩ : Pt)], by omega, by omega, by go_num, by rw [Hno.out, pds_snoc, Hps.out], by rw [Hno.out]; exact h14⟩
            case measure => simp [intOf]; omega
        · have hke : k = min ni 30 := by omega
          have hgk3 : ¬ (k : Int) < ni ∨ ((k : Int) < ni ∧ ¬ (k : Int) < 30) := by omega
          obtain ⟨ga, gc, rfl, q1, q2⟩ := (PutsR.rdpts hs).1.valn
          have cw := hcell _ hs.tail.tail.tail
          have hG := sat_GrpsR.1 (SatL.pull hs 2 : SatL wr (GrpsR _ _ :: _))
          have hgl : gs.length ≤ 5 := by
            have h1 := grpsTo_len nn A B i
            rw [← Hgs.out, List.length_map] at h1
            omega
          obtain ⟨oa, oc, rfl, q3, q4⟩ := Sl.valn hG (m := gs.length) (by rw [List.length_map])
          rw [← hke] at Hsn
          have hbb : ((gs.map (·.1)).length + 1) * 24 ≤ 140737488355328 := by rw [List.length_map]; omega
          have b9 : 0 < 24 := by omega
          have Hke := hid hke
          clear hke hgk hcell hrow
          by_cases hp0 : ps.length = 0
          · have he := hid (show grpsTo nn A B (i + 1) = grpsTo nn A B i by
              rw [Hsn.out, if_pos]
              rw [← hps]
              exact List.eq_nil_of_length_eq_zero (by rw [pds_len]; exact hp0))
            rw [hp0] at hs ⊢
            clear hps hp0
            rcases hgk3 with hgk | ⟨hgk1, hgk⟩
            all_goals
              go_wp2_with fail
              go_roundw
              case rel => exact ⟨i + 1, gs, by omega, by omega, by go_num, by rw [he.out, Hgs.out], hs.tail.tail⟩
              case measure => simp [intOf]; omega
          · have he := hid (show grpsTo nn A B (i + 1) = grpsTo nn A B i ++ [grpTo Ai Bi k] by
              rw [Hsn.out, if_neg]
              intro e
              rw [e] at hps
              exact hp0 (by rw [← pds_len, hps]; rfl))
            have hp1 : (0 : Int) < ps.length := by omega
            have Hps := hid hps
            clear hps hp0
            rcases hgk3 with hgk | ⟨hgk1, hgk⟩
            all_goals
              go_wp2_with (at_builtin; refine wpList_push_sl rfl (.tmp 67) (.tmp 69) rfl elem_puts b9 rfl hG rfl rfl hbb ?_; intro v9 w9 h10)
              go_roundw
              case rel =>
                have h11 := GrpsR.snoc (SatL.tail (SatL.bring h10 [3, 0, 2, 1]))
                exact ⟨i + 1, gs ++ [(.slice ga ps.length gc, ps)], by omega, by omega, by go_num, by rw [he.out, List.map_append, Hgs.out]; show _ ++ [pds ps] = _; rw [Hps.out], h11⟩
              case measure => simp [intOf]; omega
    · have Hie := hid (show i = min m 5 by omega)
      have hgo3 : ¬ (i : Int) < m ∨ ((i : Int) < m ∧ ¬ (i : Int) < 5) := by omega
      clear hgo
      rcases hgo3 with hgo | ⟨hgo1, hgo⟩
      all_goals
        go_wp2_with fail
        go_ret
        exact Ret.mk (by rw [← Hie.out]; exact sat_GrpsL.2 ⟨gs, hgs, hs⟩)
end
end Go.Proofs.Ytjjnadlklfegcaa

namespace Go.Proofs.Ytjjnadlklfegcaa
set_option linter.unusedVariables false
set_option linter.unusedSimpArgs false
open Go.RowKit

theorem putB_word {c : Nat} : (putB 512 c).take 8 ≠ wordT := by
  intro h
  have h0 := congrArg (fun l : List UInt8 => l[0]?) h
  have h1 := congrArg (fun l : List UInt8 => l[1]?) h
  simp only [List.getElem?_take] at h0 h1
  rw [if_pos (by omega)] at h0 h1
  unfold putB at h0 h1
  rw [List.getElem?_map, List.getElem?_range (by omega)] at h0 h1
  have e0 : byteOf (c + 0 / 3) = 71 := by simpa [wordT] using h0
  have e1 : byteOf (c + 1 / 3) = 82 := by simpa [wordT] using h1
  rw [show (0 : Nat) / 3 = 0 from rfl] at e0
  rw [show (1 : Nat) / 3 = 0 from rfl, e0] at e1
  exact absurd e1 (by decide)
theorem zero_word : (List.replicate 512 (0 : UInt8)).take 8 ≠ wordT := by
  rw [List.take_replicate]
  decide
def TornOk (l : List PD) (s : Nat) (G : List PD) : Prop :=
  ∃ got, recov (logB l) = (s, got, 0) ∧ got.map (·.1) = G.map (·.1) ∧ crcN (headB s G ++ (G.map (·.2)).flatten) = crcN (headB s G ++ (got.map (·.2)).flatten)
theorem torn_core {s s' : Nat} {G G' l : List PD} (hs : s < 18446744073709551616) (hs' : s' < 18446744073709551616) (hne : s' ≠ s) (hG : recErr G = 0) (hG' : recErr G' = 0) (gG' : ∀ p ∈ G', ∃ b, p.2 = putB 512 b)
    (hl : ∀ q ∈ l, q ∈ recAll s G ∨ q ∈ recAll s' G') (h0 : rowAt (logB l) 0 = headB s G) (hg : recovGood (logB l)) : TornOk l s G := by
  obtain ⟨a1, a2, a3, a4⟩ := recErr_good hG
  have hok : LogOk l := fun q hq => (hl q hq).elim (recAll_ok hG q) (recAll_ok hG' q)
  have hb := logB_len l
  have hc : countOf (logB l) = G.length := by unfold countOf; rw [h0, head_count a2]
  have hsq : seqOf (logB l) = s := by unfold seqOf; rw [h0, head_seq hs]
  obtain ⟨g1, ⟨t1, t2, t3⟩, g3⟩ := hg
  have hrec : recov (logB l) = (s, gotOf (logB l), 0) := by
    unfold recov
    rw [if_neg (by omega), if_pos ⟨g1, ⟨t1, t2, t3⟩, g3⟩, hsq]
  have htl : tailOf (logB l) = rowAt (logB l) (1 + G.length) := by unfold tailOf; rw [hc]
  have hrow := rowAt_log (r := 1 + G.length) (by omega) l hok
  rw [htl, hrow] at t1 t2 t3
  have hend : rowAt (logB l) (1 + G.length) = endB s G := by
    rw [hrow]
    cases hla : lastAt l (1 + G.length) with
    | none =>
      rw [hla] at t1
      exact absurd t1 zero_word
    | some p =>
      rw [hla] at t1 t2
      simp only at t1 t2 ⊢
      obtain ⟨hm, hp1⟩ := lastAt_mem hla
      rcases hl p hm with hm | hm
      · rcases recAll_mem hm with rfl | ⟨i, q, hq, rfl⟩ | rfl
        · simp only at hp1; omega
        · have := (List.getElem?_eq_some_iff.1 hq).1
          simp only at hp1; omega
        · rfl
      · rcases recAll_mem hm with rfl | ⟨i, q, hq, rfl⟩ | rfl
        · simp only at hp1; omega
        · obtain ⟨c, hc⟩ := gG' q (List.mem_of_getElem? hq)
          simp only at t1
          rw [hc] at t1
          exact absurd t1 putB_word
        · simp only at t2
          unfold endB at t2
          rw [end_seq hs', hsq] at t2
          exact absurd t2 hne
  rw [← hrow, hend] at t3
  unfold endB at t3
  rw [end_sum (groupCrc_lt _ _), hc] at t3
  refine ⟨gotOf (logB l), hrec, ?_, ?_⟩
  · apply List.ext_getElem?
    intro i
    unfold gotOf gotTo
    rw [hc, List.map_map, List.getElem?_map, List.getElem?_map]
    by_cases hi : i < G.length
    · rw [List.getElem?_range hi, List.getElem?_eq_getElem hi]
      have := head_place (seq := s) (List.getElem?_eq_getElem hi) ⟨(a3 _ (List.getElem_mem hi)).1, (a3 _ (List.getElem_mem hi)).2.1⟩
      simp only [Option.map_some, Function.comp]
      rw [h0, this]
    · rw [List.getElem?_eq_none (by simpa using hi), List.getElem?_eq_none (by omega)]
      rfl
  · have htk := take_group (b := logB l) (n := G.length) (H := headB s G) (ds := (gotOf (logB l)).map (·.2)) (by omega) h0 (by
      intro i hi
      unfold gotOf gotTo
      rw [hc, List.map_map, List.getElem?_map, List.getElem?_range hi]
      rfl) (by unfold gotOf; rw [List.length_map, gotTo_len, hc])
    rw [htk] at t3
    exact t3
theorem torn_law {P Q l : List PD} (hP : recErr P = 0) (hQ : recErr Q = 0) (gP : ∀ p ∈ P, ∃ b, p.2 = putB 512 b) (gQ : ∀ p ∈ Q, ∃ b, p.2 = putB 512 b) (hl : ∀ q ∈ l, q ∈ recAll 1 P ∨ q ∈ recAll 2 Q) (hm : (0, headB 1 P) ∈ l) :
    recov (logB l) = (0, [], 2) ∨ TornOk l 1 P ∨ TornOk l 2 Q := by
  by_cases hg : recovGood (logB l)
  · right
    have hok : LogOk l := fun q hq => (hl q hq).elim (recAll_ok hP q) (recAll_ok hQ q)
    have hrow := rowAt_log (r := 0) (by omega) l hok
    cases hla : lastAt l 0 with
    | none =>
      exfalso
      unfold lastAt at hla
      rw [List.find?_eq_none] at hla
      exact hla _ (List.mem_reverse.2 hm) (by simp)
    | some p =>
      rw [hla] at hrow
      simp only at hrow
      obtain ⟨hpm, hp1⟩ := lastAt_mem hla
      have zero : ∀ {s : Nat} {G : List PD}, p ∈ recAll s G → p.2 = headB s G := by
        intro s G h
        rcases recAll_mem h with rfl | ⟨i, q, hq, rfl⟩ | rfl
        · rfl
        · simp only at hp1; omega
        · simp only at hp1; omega
      rcases hl p hpm with h | h
      · rw [zero h] at hrow
        exact .inl (torn_core (by omega) (by omega : 2 < 18446744073709551616) (by omega) hP hQ gQ hl hrow hg)
      · rw [zero h] at hrow
        exact .inr (torn_core (by omega) (by omega : 1 < 18446744073709551616) (by omega) hQ hP gP (fun q hq => (hl q hq).symm) hrow hg)
  · left
    unfold recov
    rw [if_neg (by rw [logB_len]; omega), if_neg hg]
theorem grp_sound {G : List PD} (h : GrpOk G) (h1 : 1 ≤ G.length) (h2 : G.length ≤ 64) : recErr G = 0 := by
  have hs : ∀ p ∈ G, soundE p = 0 := by
    intro p hp
    obtain ⟨b1, b2, c, hc⟩ := h.2 p hp
    unfold soundE
    rw [if_neg (by omega), if_neg (by rw [hc, putB_len]; simp)]
  have key : ∀ (rest seen : List PD), (∀ p ∈ rest, soundE p = 0) → ((seen ++ rest).map (·.1)).Nodup → recScan seen rest = 0 := by
    intro rest
    induction rest with
    | nil => intro seen _ _; rfl
    | cons p rest ih =>
      intro seen h3 h4
      unfold recScan
      rw [h3 p (by simp)]
      have hn : ¬ p.1 ∈ seen.map (·.1) := by
        intro hm
        rw [List.map_append, List.map_cons, List.nodup_append] at h4
        exact h4.2.2 _ hm _ (by simp) rfl
      simp only [ne_eq, not_true_eq_false, if_false]
      rw [if_neg hn]
      exact ih (seen ++ [p]) (fun q hq => h3 q (List.mem_cons_of_mem _ hq)) (by rw [List.append_assoc]; exact h4)
  unfold recErr
  rw [if_neg (by intro e; rw [e] at h1; simp at h1), if_neg (by omega)]
  exact key G [] hs (by rw [List.nil_append]; exact h.1)
end Go.Proofs.Ytjjnadlklfegcaa

namespace Go.Proofs.Ytjjnadlklfegcaa
set_option linter.unusedVariables false
set_option linter.unusedSimpArgs false
open Go.RowKit

section
variable {w : World} {L : List HP}
/-- the group that a row of blocks makes -/
def grpOf (n : Nat) (A : Nat → Int) (B : Nat → Nat) : List PD := grpTo A B (min n 30)
theorem grpOf_ok (n : Nat) (A : Nat → Int) (B : Nat → Nat) : GrpOk (grpOf n A B) := grpTo_ok _ _ _
theorem grpOf_len (n : Nat) (A : Nat → Int) (B : Nat → Nat) : (grpOf n A B).length ≤ 30 := by
  have := grpTo_len A B (min n 30); unfold grpOf; omega
theorem gives_one {a : Option Addr} {n c nb T : Nat} {A S : Nat → Int} {B : Nat → Nat} (g : Gives L (BlkRow a n A S B)) :
    Gives (pt nb (.cells #[.slice a n c] T) :: L) (BlkRows (some ⟨nb, 0, none⟩) 1 (fun _ => a) (fun _ => n) (fun _ => c) (fun _ => A) (fun _ => S) (fun _ => B)) := by
  intro w' h
  refine ⟨⟨by omega, fun _ => ⟨nb, 0, rfl, fun i hi => ⟨rfl, fun j v hv => ?_⟩⟩⟩, fun i _ => g w' h.tail⟩
  obtain rfl : i = 0 := by omega
  cases j with
  | zero =>
    simp at hv
    subst hv
    exact SatL.cell h (i := 0) rfl
  | succ j => simp at hv
theorem group_yes {a : Option Addr} {n c T : Nat} {A S : Nat → Int} {B : Nat → Nat} (hB : ∀ k, B k < 256) (hG : grpOf n A B ≠ []) (h : SatL w L) (g : Gives L (BlkRow a n A S B)) :
    Calls Try.prog 19 #[.slice (some ⟨w.heap.size, 0, none⟩) 1 1] (w.alloc (.cells #[.slice a n c] T))
      (Ret fun r w' => ∃ gb go gc ua uc ps, r = .slice (some ⟨gb, go, none⟩) 1 gc ∧ pds ps = grpOf n A B ∧ SatL w' (Sl 25 (.slice (some ⟨gb, go, none⟩) 1 gc) [.slice ua ps.length uc] :: PutsR (.slice ua ps.length uc) ps :: L)) := by
  refine (groups_ok (fun _ k => hB k) (h.alloc (.cells #[.slice a n c] T)) (gives_one g)).mono ?_
  rintro e w' ⟨r, rfl, h1⟩
  obtain ⟨gs, hgs, h2⟩ := sat_GrpsL.1 h1
  rw [show min 1 5 = 0 + 1 from rfl, grpsTo, grpsTo, show grpTo A B (min n 30) = grpOf n A B from rfl, if_neg hG] at hgs
  match gs, hgs with
  | [(u, ps)], hgs =>
    have hps : pds ps = grpOf n A B := by simpa using hgs
    have h3 := sat_GrpsR.1 h2
    obtain ⟨ra, rc, rfl, _⟩ := Sl.valn h3 (m := 1) (by simp)
    obtain ⟨gb, go, rfl⟩ := Sl.addr h3 (by omega)
    have h4 : SatL w' (PutsR u ps :: big (fun g : Value × List Pt => PutsR g.1 g.2) [] :: _) := (big_cons (f := fun g : Value × List Pt => PutsR g.1 g.2) (x := (u, ps)) (xs := [])).1 (SatL.pull h3 1 : SatL w' (big (fun g : Value × List Pt => PutsR g.1 g.2) [(u, ps)] :: _))
    obtain ⟨ua, uc, rfl, _⟩ := (PutsR.rdpts h4).1.valn
    refine ⟨_, rfl, gb, go, rc, ua, uc, ps, rfl, hps, ?_⟩
    have h5 := (big_nil (f := fun g : Value × List Pt => PutsR g.1 g.2)).1 (SatL.pull h4 1 : SatL w' (big (fun g : Value × List Pt => PutsR g.1 g.2) [] :: _))
    exact SatL.tail (h5.bring [2, 1, 0])
  | [], hgs => simp at hgs
  | _ :: _ :: _, hgs => simp at hgs
theorem group_no {a : Option Addr} {n c T : Nat} {A S : Nat → Int} {B : Nat → Nat} (hB : ∀ k, B k < 256) (hG : grpOf n A B = []) (h : SatL w L) (g : Gives L (BlkRow a n A S B)) :
    Calls Try.prog 19 #[.slice (some ⟨w.heap.size, 0, none⟩) 1 1] (w.alloc (.cells #[.slice a n c] T))
      (Ret fun r w' => ∃ ga gc, r = .slice ga 0 gc ∧ SatL w' L) := by
  refine (groups_ok (fun _ k => hB k) (h.alloc (.cells #[.slice a n c] T)) (gives_one g)).mono ?_
  rintro e w' ⟨r, rfl, h1⟩
  obtain ⟨gs, hgs, h2⟩ := sat_GrpsL.1 h1
  rw [show min 1 5 = 0 + 1 from rfl, grpsTo, grpsTo, show grpTo A B (min n 30) = grpOf n A B from rfl, if_pos hG] at hgs
  have he : gs = [] := by simpa using hgs
  subst he
  have h3 := sat_GrpsR.1 h2
  obtain ⟨ra, rc, rfl, _⟩ := Sl.valn h3 (m := 0) (by simp)
  exact ⟨_, rfl, ra, rc, rfl, h3.tail.tail.tail⟩
/-- append([]api.Put{}, x...), x kept -/
theorem step_copyKeep {ops : Array Oper} {o : Oper} {a : Act} {K : Act → World → Prop} {Q : Exit → Act → World → Prop} {X : Prop} {nb : Nat} {v : Value} {ps : List Pt} (hgd : o.guard = none) (s x : Operand)
    (ho : o.op = .call { callee := .builtin .append, args := #[s, x], argTypes := #[25, 25] }) (hs : a.eval s = .slice (some ⟨nb, 0, none⟩) 0 0) (hy : a.eval x = v)
    (h : SatL w (SlK 29 2 (.slice (some ⟨nb, 0, none⟩) 0 0) 0 [] :: PutsR v ps :: L)) (hl : ps.length ≤ 1000000)
    (H : ∀ v' w', SatL w' (SlK 29 2 v' ps.length (pcells ps) :: PutsR v ps :: L) → K (a.put o.dst v') w') :
    if Region.wanted o (yielded ops a.tmps) = true then Oper.wp Try.prog o a w K Q else X := by
  have hp := sat_PutsR.1 h.swap
  refine step_append_sl hgd s x ho elem_put hs h hy (SrcOk.ofK elem_put.under hp) (pcells_one (PutsR.ptsl h.swap)) (by omega) (by unfold maxLen; omega) ?_
  intro v' w' h2 _
  rw [Nat.zero_add, List.nil_append] at h2
  exact H v' w' h2
theorem pcells_snoc1 (ps : List Pt) (b : Int) (u : Value) (d : List UInt8) : pcells (ps ++ [⟨b, u, d⟩]) = pcells ps ++ (#[.int .i64 b, u] : Array Value).toList := by simp [pcells]
theorem step_cell_new {ops : Array Oper} {o : Oper} {a : Act} {K : Act → World → Prop} {Q : Exit → Act → World → Prop} {X : Prop} {nb : Nat} {v u : Value} {ps : List Pt} {b : Int} {d : List UInt8} (hnb : nb = w.heap.size) (hgd : o.guard = none) (s x : Operand)
    (ho : o.op = .call { callee := .builtin .append, args := #[s, x], argTypes := #[25, 25] }) (hs : a.eval s = v) (hy : a.eval x = .slice (some ⟨nb, 0, none⟩) 1 1)
    (hu : u.oneCell' = true) (h : SatL w (SlK 29 2 v ps.length (pcells ps) :: L)) (hl : ps.length ≤ 1000000)
    (H : ∀ v' w', SatL w' (SlK 29 2 v' (ps.length + 1) (pcells (ps ++ [⟨b, u, d⟩])) :: L) → K (a.put o.dst v') w') :
    if Region.wanted o (yielded ops a.tmps) = true then Oper.wp Try.prog o a (w.alloc (.cells #[.int .i64 b, u] 29)) K Q else X := by
  refine step_pushK_sl hnb hgd s x ho elem_put (by omega) hs h hy rfl (by intro y hy; simp at hy; rcases hy with rfl | rfl <;> first | rfl | exact hu) (by omega) ?_
  intro v' w' h2
  exact H v' w' (by rw [pcells_snoc1]; exact h2)
theorem step_cell_cl {ops : Array Oper} {o : Oper} {a : Act} {K : Act → World → Prop} {Q : Exit → Act → World → Prop} {X : Prop} {nb : Nat} {v u : Value} {ps : List Pt} {b : Int} {d : List UInt8} (hgd : o.guard = none) (s x : Operand)
    (ho : o.op = .call { callee := .builtin .append, args := #[s, x], argTypes := #[25, 25] }) (hs : a.eval s = v) (hy : a.eval x = .slice (some ⟨nb, 0, none⟩) 1 1)
    (hu : u.oneCell' = true) (h : SatL w (SlK 29 2 v ps.length (pcells ps) :: pt nb (.cells #[.int .i64 b, u] 29) :: L)) (hl : ps.length ≤ 1000000)
    (H : ∀ v' w', SatL w' (SlK 29 2 v' (ps.length + 1) (pcells (ps ++ [⟨b, u, d⟩])) :: L) → K (a.put o.dst v') w') :
    if Region.wanted o (yielded ops a.tmps) = true then Oper.wp Try.prog o a w K Q else X := by
  refine step_append_sl hgd s x ho elem_put hs h hy (SrcOk.ofCl (n := 1) elem_put.under (SatL.pull h 1 : SatL w (pt _ _ :: _)) rfl 1) (by intro y hy; simp at hy; rcases hy with rfl | rfl <;> first | rfl | exact hu) (by omega) (by unfold maxLen; omega) ?_
  intro v' w' h2 _
  exact H v' w' (by rw [pcells_snoc1]; exact SatL.tail h2.swap)
theorem emptyK (h : SatL w L) : SatL (w.alloc (.cells #[] 29)) (SlK 29 2 (.slice (some ⟨w.heap.size, 0, none⟩) 0 0) 0 [] :: L) :=
  sat_SlK.2 (.inr ⟨w.heap.size, 0, 0, #[], ⟨rfl, Nat.le_refl _, by decide, rfl, by simp, rfl⟩, h.alloc _⟩)
theorem emptyKN {n : Nat} (hn : n = w.heap.size) (h : SatL w L) : SatL (w.alloc (.cells #[] 29)) (SlK 29 2 (.slice (some ⟨n, 0, none⟩) 0 0) 0 [] :: L) := by
  subst hn; exact emptyK h
end
end Go.Proofs.Ytjjnadlklfegcaa

namespace Go.Proofs.Ytjjnadlklfegcaa
set_option linter.unusedVariables false
set_option linter.unusedSimpArgs false
open Go.RowKit

theorem fit_sound {G : List PD} (hf : Fit G) (hn : (G.map (·.1)).Nodup) (h1 : G ≠ []) : recErr G = 0 := by
  have key : ∀ (rest seen : List PD), (∀ p ∈ rest, soundE p = 0) → ((seen ++ rest).map (·.1)).Nodup → recScan seen rest = 0 := by
    intro rest
    induction rest with
    | nil => intro seen _ _; rfl
    | cons p rest ih =>
      intro seen h3 h4
      unfold recScan
      rw [h3 p (by simp)]
      have hn : ¬ p.1 ∈ seen.map (·.1) := by
        intro hm
        rw [List.map_append, List.map_cons, List.nodup_append] at h4
        exact h4.2.2 _ hm _ (by simp) rfl
      simp only [ne_eq, not_true_eq_false, if_false]
      rw [if_neg hn]
      exact ih (seen ++ [p]) (fun q hq => h3 q (List.mem_cons_of_mem _ hq)) (by rw [List.append_assoc]; exact h4)
  unfold recErr
  rw [if_neg h1, if_neg (by have := hf.1; omega)]
  exact key G [] hf.2 (by simpa using hn)

section
variable {w : World} {L : List HP} {pb : Nat} {s : LogS}
theorem enter_ok {p : Nat} (hp : 1 ≤ p ∧ p ≤ 8) (hq : s.seq < 18446744073709551616) (hst : 0 ≤ s.start ∧ s.start ≤ 4611686018427387904) (hN : recErr s.N = 0) (h : SatL w (LogR pb s :: L)) :
    Calls Try.prog 58 #[.pointer (some ⟨pb, 0, none⟩), .int .i64 p] w (Ret fun r w' => SatL w' (LogR pb (s.enter p) :: L)) := by
  have hc : ((p = 2 ∨ p = 4 ∨ p = 6 ∨ p = 8) ∨ p = 1 ∨ p = 5) ∨ p = 7 ∨ p = 3 := by omega
  rcases hc with hc | hc | hc
  · exact enterA_ok hc hq hst hN h
  · exact enter7_ok hc hq hst hN h
  · exact enter3_ok hc hq hst hN h
theorem LogR.nodup (h : SatL w (LogR pb s :: L)) : (s.L.map (·.1)).Nodup ∧ Fit s.L := by
  obtain ⟨lv, m, nv, mv, rv, hf, h1⟩ := sat_LogR.1 h
  obtain ⟨es, hG, _⟩ := sat_GrpOf.1 (SatL.pull h1 2 : SatL w (GrpOf _ _ :: _))
  exact ⟨hG.1, hf.1⟩
/-- the log as Start hands it to the first phase -/
def LogS.begun (s : LogS) : LogS := { s with L := [], N := s.L, phase := 0, R := [], told := 0, don := 0, number := s.number + 1 }
def LogS.startS (s : LogS) : Int × LogS := if s.phase ≠ 0 then (8, s) else if s.L = [] then (2, s) else (0, s.begun.enter 1)
theorem start_busy (h : SatL w (LogR pb s :: L)) (h0 : s.phase ≠ 0) : Calls Try.prog 26 #[.pointer (some ⟨pb, 0, none⟩)] w (Ret fun r w' => r = .int .i64 8 ∧ SatL w' (LogR pb s :: L)) := by
  obtain ⟨lv, m, nv, mv, rv, hf, h1⟩ := sat_LogR.1 h
  have c4 : w.cell? ⟨pb, 4, none⟩ = some (.int .i64 s.phase) := h1.cell (i := 4) rfl
  have hz : ¬ (s.phase : Int) = 0 := by omega
  clear h1 h0 hf
  go_enter Try.func26, Try.ntmps26
  go_wp2
  go_ret
  exact Ret.mk ⟨rfl, h⟩
theorem start_empty (h : SatL w (LogR pb s :: L)) (h0 : s.phase = 0) (hL : s.L = []) : Calls Try.prog 26 #[.pointer (some ⟨pb, 0, none⟩)] w (Ret fun r w' => r = .int .i64 2 ∧ SatL w' (LogR pb s :: L)) := by
  obtain ⟨lv, m, nv, mv, rv, hf, h1⟩ := sat_LogR.1 h
  have hv := PutsL.valn (SatL.pull h1 1 : SatL w (PutsL _ _ :: _))
  rw [hL] at hv
  obtain ⟨a, c, rfl, q1, q2⟩ := hv
  have c0 : w.cell? ⟨pb, 0, none⟩ = some (.slice a 0 c) := h1.cell (i := 0) rfl
  have c4 : w.cell? ⟨pb, 4, none⟩ = some (.int .i64 s.phase) := h1.cell (i := 4) rfl
  rw [h0] at c4
  clear h1 hL h0 hf
  go_enter Try.func26, Try.ntmps26
  go_wp2
  go_ret
  exact Ret.mk ⟨rfl, h⟩
set_option maxRecDepth 100000 in
set_option maxHeartbeats 4000000 in
theorem start_go (h : SatL w (LogR pb s :: L)) (h0 : s.phase = 0) (hL : s.L ≠ []) (hq : s.seq < 18446744073709551616) (hst : 0 ≤ s.start ∧ s.start ≤ 4611686018427387904) (hnum : s.number ≤ 4611686018427387904) :
    Calls Try.prog 26 #[.pointer (some ⟨pb, 0, none⟩)] w (Ret fun r w' => r = .int .i64 0 ∧ SatL w' (LogR pb (s.begun.enter 1) :: L)) := by
  obtain ⟨hnd, hfl⟩ := LogR.nodup h
  have hrE := fit_sound hfl hnd hL
  obtain ⟨lv, m, nv, mv, rv, hf, h1⟩ := sat_LogR.1 h
  obtain ⟨a, c, rfl, q1, q2⟩ := PutsL.valn (SatL.pull h1 1 : SatL w (PutsL _ _ :: _))
  have hln : 0 < s.L.length := List.length_pos_iff.2 hL
  have hlz : ¬ (s.L.length : Int) = 0 := by omega
  have c0 : w.cell? ⟨pb, 0, none⟩ = some (.slice a s.L.length c) := h1.cell (i := 0) rfl
  have c1 : w.cell? ⟨pb, 1, none⟩ = some (.map (some m)) := h1.cell (i := 1) rfl
  have c2 : w.cell? ⟨pb, 2, none⟩ = some nv := h1.cell (i := 2) rfl
  have c3 : w.cell? ⟨pb, 3, none⟩ = some mv := h1.cell (i := 3) rfl
  have c4 : w.cell? ⟨pb, 4, none⟩ = some (.int .i64 s.phase) := h1.cell (i := 4) rfl
  rw [h0] at c4
  have c5 : w.cell? ⟨pb, 5, none⟩ = some rv := h1.cell (i := 5) rfl
  have c6 : w.cell? ⟨pb, 6, none⟩ = some (.int .i64 s.told) := h1.cell (i := 6) rfl
  have c7 : w.cell? ⟨pb, 7, none⟩ = some (.int .i64 s.don) := h1.cell (i := 7) rfl
  have f2 := h1.free 2
  have f3 := h1.free 3
  have f4 := h1.free 4
  have f5 := h1.free 5
  have f6 := h1.free 6
  have f7 := h1.free 7
  have h2 := (((((h1.set (i := 2) (.slice a s.L.length c)).set (i := 3) (.map (some m))).set (i := 4) (.int .i64 0)).set (i := 5) (.slice none 0 0)).set (i := 6) (.int .i64 0)).set (i := 7) (.int .i64 0)
  have e2 : (((((((logCells (.slice a s.L.length c) m nv mv rv s).setIfInBounds 2 (.slice a s.L.length c)).setIfInBounds 3 (.map (some m))).setIfInBounds 4 (.int .i64 0)).setIfInBounds 5 (.slice none 0 0)).setIfInBounds 6 (.int .i64 0)).setIfInBounds 7 (.int .i64 0)) =
    #[.slice a s.L.length c, .map (some m), .slice a s.L.length c, .map (some m), .int .i64 0, .slice none 0 0, .int .i64 0, .int .i64 0, .int .i64 s.start, .int .u64 s.seq, .int .i64 s.number, .int .i64 s.durable] := rfl
  rw [e2] at h2
  have hmm := @run_makeMap Try.prog
  have hnb : (s.number : Int) ≤ 4611686018427387904 := by omega
  clear h1 e2 h
  go_enter Try.func26, Try.ntmps26
  go_upto_region 6 with fail
  generalize (((((w.setCell ⟨pb, 2, none⟩ (.slice a s.L.length c)).setCell ⟨pb, 3, none⟩ (.map (some m))).setCell ⟨pb, 4, none⟩ (.int .i64 0)).setCell ⟨pb, 5, none⟩ (.slice none 0 0)).setCell ⟨pb, 6, none⟩ (.int .i64 0)).setCell ⟨pb, 7, none⟩ (.int .i64 0) = w1 at *
  clear c0 c1 c2 c3 c4 c5 c6 c7 f2 f3 f4 f5 f6 f7
  have d0 : w1.cell? ⟨pb, 0, none⟩ = some (.slice a s.L.length c) := h2.cell (i := 0) rfl
  have d1 : w1.cell? ⟨pb, 1, none⟩ = some (.map (some m)) := h2.cell (i := 1) rfl
  have d10 : w1.cell? ⟨pb, 10, none⟩ = some (.int .i64 s.number) := h2.cell (i := 10) rfl
  have g0 := h2.free 0
  have g1 := h2.free 1
  have g10 := h2.free 10
  have hne := h2.lt
  have h3 := (((h2.set (i := 0) (.slice none 0 0)).set (i := 1) (.map (some w1.heap.size))).set (i := 10) (.int .i64 (s.number + 1))).allocN (n := w1.heap.size) (.map #[] 0) (by simp)
  have h4 := MapI.made h3
  have h5 := sat_GrpOf.2 ⟨[], Grp.nil, h4⟩
  have h6 := sat_GrpN.2 (.inr ⟨m, rfl, (SatL.pull h5 3 : SatL _ (GrpOf m _ :: _))⟩)
  have h7 := ReqsL.nil (PutsL.nil h6)
  have h8 := (sat_LogR (s := s.begun)).2 ⟨.slice none 0 0, w1.heap.size, .slice a s.L.length c, .map (some m), .slice none 0 0, ⟨Fit.nil, hf.1⟩, h7.bring [4, 1, 3, 5, 2, 0]⟩
  have hent := enter_ok (s := s.begun) (p := 1) (by omega) hq hst hrE h8
  rw [show ((1 : Nat) : Int) = 1 from rfl] at hent
  clear h2 h3 h4 h5 h6 h7 h8
  go_wp2_with (go_at_call 58; (with_reducible refine hent.mono ?_); rintro e w2 ⟨r, rfl, h9⟩)
  go_ret
  exact Ret.mk ⟨rfl, SatL.to h9⟩
theorem start_ok (h : SatL w (LogR pb s :: L)) (hq : s.seq < 18446744073709551616) (hst : 0 ≤ s.start ∧ s.start ≤ 4611686018427387904) (hnum : s.number ≤ 4611686018427387904) :
    Calls Try.prog 26 #[.pointer (some ⟨pb, 0, none⟩)] w (Ret fun r w' => r = .int .i64 s.startS.1 ∧ SatL w' (LogR pb s.startS.2 :: L)) := by
  unfold LogS.startS
  by_cases h0 : s.phase ≠ 0
  · rw [if_pos h0]; exact start_busy h h0
  · have h00 : s.phase = 0 := by omega
    rw [if_neg h0]
    by_cases hL : s.L = []
    · rw [if_pos hL]; exact start_empty h h00 hL
    · rw [if_neg hL]; exact start_go h h00 hL hq hst hnum
end
end Go.Proofs.Ytjjnadlklfegcaa

namespace Go.Proofs.Ytjjnadlklfegcaa
set_option linter.unusedVariables false
set_option linter.unusedSimpArgs false
open Go.RowKit

def ReqSl (r : Rp) : Prop := ∃ a c, r.v = .slice a r.d.length c ∧ r.d.length ≤ c ∧ c ≤ 9223372036854775807
section
variable {w : World} {L : List HP}
theorem ReqsR.rdb {rv : Value} {rs : List Rp} {r : Rp} (h : SatL w (ReqsR rv rs :: L)) (hr : r ∈ rs) : RdB r.v r.d w := by
  obtain ⟨a, b, rfl⟩ := List.append_of_mem hr
  have h2 := big_mid.1 (sat_ReqsR.1 h).swap
  have h3 : SatL w (SlB 5 r.v r.d :: _) := h2
  exact SlB.rd h3
theorem ReqsR.sl {rv : Value} {rs : List Rp} {r : Rp} (h : SatL w (ReqsR rv rs :: L)) (hr : r ∈ rs) : ReqSl r := (ReqsR.rdb h hr).valn
theorem ReqsR.cells {b off n c j : Nat} {rs : List Rp} {r : Rp} (h : SatL w (ReqsR (.slice (some ⟨b, off, none⟩) n c) rs :: L)) (hr : rs[j]? = some r) :
    w.cell? ⟨b, off + j * 4, none⟩ = some (.int .i64 r.k) ∧ w.cell? ⟨b, off + j * 4 + 1, none⟩ = some (.int .i64 r.b) ∧ w.cell? ⟨b, off + j * 4 + 2, none⟩ = some (.int .i64 r.n) ∧ w.cell? ⟨b, off + j * 4 + 3, none⟩ = some r.v := by
  have h1 := sat_ReqsR.1 h
  obtain ⟨_, _, e, _⟩ := SlK.valn h1
  injection e with _ e2 _
  subst e2
  obtain ⟨c1, c2, c3, c4⟩ := rcells_get hr
  refine ⟨SlK.cell h1 c1, ?_, ?_, ?_⟩
  · rw [Nat.add_assoc]; exact SlK.cell h1 c2
  · rw [Nat.add_assoc]; exact SlK.cell h1 c3
  · rw [Nat.add_assoc]; exact SlK.cell h1 c4
theorem ReqsR.addr {a : Option Addr} {n c : Nat} {rs : List Rp} (h : SatL w (ReqsR (.slice a n c) rs :: L)) (hn : 0 < rs.length) : ∃ b off, a = some ⟨b, off, none⟩ := by
  rcases SlK.form (sat_ReqsR.1 h) with ⟨_, h2, _⟩ | ⟨b, off, cap, h1, _⟩
  · omega
  · injection h1 with h1 _ _; exact ⟨b, off, h1⟩
/-- one request more, in a plain walk -/
theorem wpList_oneReq {ops : Array Oper} {rest : List Oper} {o : Oper} {a : Act} {Q : Exit → Act → World → Prop} {nb : Nat} {v u : Value} {rs : List Rp} {k b n : Int} {d : List UInt8} (hnb : nb = w.heap.size) (hgd : o.guard = none) (s x : Operand)
    (ho : o.op = .call { callee := .builtin .append, args := #[s, x], argTypes := #[66, 66] }) (hs : a.eval s = v) (hy : a.eval x = .slice (some ⟨nb, 0, none⟩) 1 1)
    (hu : u.oneCell' = true) (h : SatL w (ReqsR v rs :: SlB 5 u d :: L)) (hl : rs.length ≤ 1000000)
    (K : ∀ v' w', SatL w' (ReqsR v' (rs ++ [⟨k, b, n, u, d⟩]) :: L) → wpList Try.prog ops Q rest (a.put o.dst v') w') :
    wpList Try.prog ops Q (o :: rest) a (w.alloc (.cells #[.int .i64 k, .int .i64 b, .int .i64 n, u] 80)) := by
  refine wpList_pushK_sl hnb hgd s x ho elem_req (by omega) hs (sat_ReqsR.1 h) hy rfl (by intro y hy; simp at hy; rcases hy with rfl | rfl | rfl | rfl <;> first | rfl | exact hu) (by omega) ?_
  intro v' w' h2
  exact K v' w' (ReqsR.snoc h2)
def LogS.wanted (s : LogS) : LogS := { s with told := s.R.length }
set_option maxRecDepth 100000 in
set_option maxHeartbeats 4000000 in
theorem want_ok {pb : Nat} {s : LogS} (h : SatL w (LogR pb s :: L)) (ht : s.told ≤ s.R.length) (hR : s.R.length ≤ 1000) (hd : ∀ r ∈ s.R, r.d.length ≤ 1000000) :
    Calls Try.prog 30 #[.pointer (some ⟨pb, 0, none⟩)] w (Ret fun r w' => SatL w' (ReqsL r (s.R.drop s.told) :: LogR pb s.wanted :: L)) := by
  obtain ⟨lv, m, nv, mv, rv, hf, h1⟩ := sat_LogR.1 h
  obtain ⟨rs, hrs, h2⟩ := sat_ReqsL.1 (SatL.pull h1 5 : SatL w (ReqsL _ _ :: _))
  have hrl : rs.length = s.R.length := by have := congrArg List.length hrs; rwa [List.length_map] at this
  have hdd : ∀ r ∈ rs, r.d.length ≤ 1000000 := by
    intro r hr
    exact hd ⟨r.k, r.b, r.n, r.d⟩ (by rw [← hrs]; exact List.mem_map_of_mem hr)
  have htr : s.told ≤ rs.length := by omega
  have hr1 : rs.length ≤ 1000 := by omega
  obtain ⟨ra, rc, rfl, q1, q2⟩ := SlK.valn (sat_ReqsR.1 h2)
  have h3 := sat_drew.2 h2
  have c5 := SatL.cell (SatL.pull h3 1 : SatL _ (cl pb _ _ :: _)) (i := 5) (v := .slice ra rs.length rc) rfl
  have c6 := SatL.cell (SatL.pull h3 1 : SatL _ (cl pb _ _ :: _)) (i := 6) (v := .int .i64 s.told) rfl
  have hfin : ∀ (w' : World) (ov : Value) (os : List Rp), rqs os = (rqs rs).drop s.told → SatL w' (ReqsR ov os :: cl pb 121 (logCells lv m nv mv (.slice ra rs.length rc) s.wanted) :: ReqsR (.slice ra rs.length rc) rs :: PutsL lv s.L :: GrpOf m (s.L.map (·.1)) :: PutsL nv s.N :: GrpN mv (s.N.map (·.1)) :: L) →
      SatL w' (ReqsL ov (s.R.drop s.told) :: LogR pb s.wanted :: L) := by
    intro w' ov os e h9
    have h10 := sat_ReqsL.2 ⟨os, (by rw [e, hrs] : rqs os = s.R.drop s.told), h9⟩
    have h11 := sat_ReqsL.2 ⟨rs, hrs, (SatL.pull h10 2 : SatL w' (ReqsR _ _ :: _))⟩
    exact ((sat_LogR (s := s.wanted)).2 ⟨lv, m, nv, mv, _, hf, h11.bring [2, 3, 4, 5, 6, 0]⟩).swap
  have HF := hid hfin
  have hz1 : (0 : Int) ≤ s.told := by omega
  have hz2 : (s.told : Int) ≤ rs.length := by omega
  have hz3 : (rs.length : Int) ≤ rc := by omega
  have hz4 : (rc : Int) ≤ 9223372036854775807 := by omega
  have hwn : s.R.length = rs.length := hrl.symm
  have Hwn := hid hwn
  have hs0 : SatL w.drew (ReqsR (.slice none 0 0) [] :: cl pb 121 (logCells lv m nv mv (.slice ra rs.length rc) s) :: ReqsR (.slice ra rs.length rc) rs :: PutsL lv s.L :: GrpOf m (s.L.map (·.1)) :: PutsL nv s.N :: GrpN mv (s.N.map (·.1)) :: L) :=
    sat_ReqsR.2 (SlK_nil ((big_nil (f := fun r : Rp => SlB 5 r.v r.d)).2 (h3.bring [1, 0])))
  generalize hT : s.told = t at *
  clear h h1 h2 h3 hrs hfin hrl hwn hd hR ht
  go_enter Try.func30, Try.ntmps30
  go_wp2
  have HLC : Hid (logCells lv m nv mv (.slice ra rs.length rc) s.wanted = (logCells lv m nv mv (.slice ra rs.length rc) s).setIfInBounds 6 (.int .i64 rs.length)) := by
    have e : (logCells lv m nv mv (.slice ra rs.length rc) s).setIfInBounds 6 (.int .i64 s.R.length) = logCells lv m nv mv (.slice ra rs.length rc) s.wanted := rfl
    rw [Hwn.out] at e
    exact e.symm
  by_cases hlt : t < rs.length
  · obtain ⟨b, off, rfl⟩ := ReqsR.addr (SatL.pull hs0 2 : SatL _ (ReqsR _ _ :: _)) (by omega)
    have hz5 : t < rc := by omega
    have hz6 : ¬ rc = t := by omega
    go_region
    go_wp2
    go_loopw [3, 18] (fun ov iv wr => ∃ (j : Nat) (os : List Rp), j ≤ rs.length - t ∧ iv = .int .i64 j ∧ rqs os = ((rqs rs).drop t).take j ∧ SatL wr (ReqsR ov os :: cl pb 121 (logCells lv m nv mv (.slice (some ⟨b, off, none⟩) rs.length rc) s) :: ReqsR (.slice (some ⟨b, off, none⟩) rs.length rc) rs :: PutsL lv s.L :: GrpOf m (s.L.map (·.1)) :: PutsL nv s.N :: GrpN mv (s.N.map (·.1)) :: L)) (fun _ iv _ => rs.length - t - (intOf iv).toNat)
    case atStart => exact ⟨0, [], by omega, rfl, rfl, hs0⟩
    case round =>
      clear hs0 c5 c6
      obtain ⟨j, os, hj, rfl, hos, hs⟩ := hrel
      have Hos := hid hos
      have hol : os.length ≤ 1000000 := by
        have := congrArg List.length hos
        rw [List.length_map, List.length_take] at this; omega
      obtain ⟨oa, oc, rfl, o1, o2⟩ := SlK.valn (sat_ReqsR.1 hs)
      by_cases hjn : j < rs.length - t
      · have hp : rs[t + j]? = some rs[t + j] := List.getElem?_eq_getElem (by omega)
        have hmem := List.getElem_mem (l := rs) (n := t + j) (by omega)
        obtain ⟨k0, k1, k2, k3⟩ := ReqsR.cells (SatL.pull hs 2 : SatL wr (ReqsR _ _ :: _)) hp
        obtain ⟨va, vc, hv, i1, i2⟩ := ReqsR.sl (SatL.pull hs 2 : SatL wr (ReqsR _ _ :: _)) hmem
        have e1 : off + (t + j) * 4 = off + t * 4 + j * 4 := by omega
        rw [e1] at k0 k1 k2 k3
        have hsn : rqs os ++ [⟨rs[t + j].k, rs[t + j].b, rs[t + j].n, rs[t + j].d⟩] = ((rqs rs).drop t).take (j + 1) := by
          rw [List.take_add_one, List.getElem?_drop, List.getElem?_map, hp, hos]; rfl
        have Hsn := hid hsn
        have hs1 := hs.alloc (.cells #[.int .i64 rs[t + j].k, .int .i64 rs[t + j].b, .int .i64 rs[t + j].n, rs[t + j].v] 80)
        have hcl := clone_rd hs1 (fun w' h' => ReqsR.rdb (SatL.pull h' 3 : SatL w' (ReqsR _ _ :: _)) hmem) (by have := hdd _ hmem; omega)
        rw [hv] at k3 hs1 hcl
        generalize rs[t + j].k = rk at *
        generalize rs[t + j].b = rb at *
        generalize rs[t + j].n = rn at *
        generalize rs[t + j].d = rd at *
        have y3 := SatL.cell (hs1 : SatL _ (cl _ _ _ :: _)) (i := 3) (v := .slice va rd.length vc) rfl
        have hjz : (j : Int) < ((rs.length - t : Nat) : Int) := by omega
        have t1 : True := trivial
        clear hp hmem hv hsn hos hs hs1 e1
        go_wp2_with (first
          | (have _t := t1; go_at_call 47; (with_reducible refine hcl.mono ?_); clear t1; rintro e w2 ⟨v2, rfl, h5⟩; obtain ⟨da, dc, rfl, _, _⟩ := SlB.valn h5; have x0 := SatL.cell (SatL.pull h5 1 : SatL w2 (cl _ _ _ :: _)) (i := 0) (v := .int .i64 rk) rfl; have x1 := SatL.cell (SatL.pull h5 1 : SatL w2 (cl _ _ _ :: _)) (i := 1) (v := .int .i64 rb) rfl; have x2 := SatL.cell (SatL.pull h5 1 : SatL w2 (cl _ _ _ :: _)) (i := 2) (v := .int .i64 rn) rfl; have x3 := SatL.cell (SatL.pull h5 1 : SatL w2 (cl _ _ _ :: _)) (i := 3) (v := .slice va rd.length vc) rfl; have f3 := SatL.free (SatL.pull h5 1 : SatL w2 (cl _ _ _ :: _)) 3; have h6 := (SatL.pull h5 1 : SatL w2 (cl _ _ _ :: _)).set (i := 3) (.slice da rd.length dc); have h7 : SatL _ (ReqsR (.slice oa os.length oc) os :: SlB 5 (.slice da rd.length dc) rd :: _) := h6.bring [2, 1])
          | (at_builtin; refine wpList_oneReq (w := w2.setCell ⟨wr.heap.size, 3, none⟩ (.slice da rd.length dc)) (nb := w2.heap.size) (by simp) rfl (.tmp 26) (.tmp 28) rfl rfl rfl rfl h7 hol ?_; intro v9 w9 h9))
        go_roundw
        case rel => exact ⟨j + 1, _, by omega, by go_num, by rw [rqs_snoc]; exact Hsn.out, SatL.tail (h9.bring [1, 0])⟩
        case measure => simp [intOf]; omega
      · obtain rfl : j = rs.length - t := by omega
        have e9 : rqs os = (rqs rs).drop t := by rw [hos]; exact List.take_of_length_le (by simp)
        have d5 := SatL.cell (SatL.pull hs 1 : SatL _ (cl pb _ _ :: _)) (i := 5) (v := .slice (some ⟨b, off, none⟩) rs.length rc) rfl
        have d6 := SatL.cell (SatL.pull hs 1 : SatL _ (cl pb _ _ :: _)) (i := 6) (v := .int .i64 s.told) rfl
        have f6 := SatL.free (SatL.pull hs 1 : SatL _ (cl pb _ _ :: _)) 6
        have h4 := (SatL.pull hs 1 : SatL _ (cl pb _ _ :: _)).set (i := 6) (.int .i64 rs.length)
        rw [← HLC.out] at h4
        have h5 := HF.out _ _ _ e9 h4.swap
        clear hs h4 e9 hos
        go_wp2
        go_ret
        exact Ret.mk h5
  · obtain rfl : t = rs.length := by omega
    have e9 : rqs ([] : List Rp) = (rqs rs).drop rs.length := by rw [List.drop_of_length_le (by simp)]; rfl
    have d5 := SatL.cell (SatL.pull hs0 1 : SatL _ (cl pb _ _ :: _)) (i := 5) (v := .slice ra rs.length rc) rfl
    have d6 := SatL.cell (SatL.pull hs0 1 : SatL _ (cl pb _ _ :: _)) (i := 6) (v := .int .i64 s.told) rfl
    have f6 := SatL.free (SatL.pull hs0 1 : SatL _ (cl pb _ _ :: _)) 6
    have h4 := (SatL.pull hs0 1 : SatL _ (cl pb _ _ :: _)).set (i := 6) (.int .i64 rs.length)
    rw [← HLC.out] at h4
    have h5 := hid (HF.out _ _ _ e9 h4.swap)
    have hra : (ra = none ∧ rs.length = 0 ∧ rc = 0) ∨ ∃ b off, ra = some ⟨b, off, none⟩ := by
      rcases SlK.form (sat_ReqsR.1 (SatL.pull hs0 2 : SatL _ (ReqsR _ _ :: _))) with ⟨h1, h2, _⟩ | ⟨b, off, cap, h1, _⟩
      · injection h1 with a1 a2 a3; exact .inl ⟨a1, h2, a3⟩
      · injection h1 with a1 _ _; exact .inr ⟨b, off, a1⟩
    clear hs0 h4 e9 hlt
    rcases hra with ⟨rfl, hn0, rfl⟩ | ⟨b, off, rfl⟩
    · have h5 := h5.out
      have e0 : ((rs.length : Nat) : Int) = 0 := by omega
      rw [e0] at c6 h5
      rw [hn0] at c5 d5
      clear hn0 HF HLC e0 hz1 hz2 hz3
      go_region
      generalize w.drew = wd at *
      go_wp2
      go_loopw [3, 18] (fun ov iv wr => ov = .slice none 0 0 ∧ iv = .int .i64 0 ∧ wr = wd) (fun _ _ _ => 0)
      case atStart => exact ⟨rfl, rfl, rfl⟩
      case round =>
        obtain ⟨rfl, rfl, rfl⟩ := hrel
        go_wp2
        go_ret
        exact Ret.mk h5
    · have h5 := h5.out
      by_cases hcap : rc = rs.length
      · clear HF HLC
        go_region
        generalize w.drew = wd at *
        go_wp2
        go_loopw [3, 18] (fun ov iv wr => ov = .slice none 0 0 ∧ iv = .int .i64 0 ∧ wr = wd) (fun _ _ _ => 0)
        case atStart => exact ⟨rfl, rfl, rfl⟩
        case round =>
          obtain ⟨rfl, rfl, rfl⟩ := hrel
          go_wp2
          go_ret
          exact Ret.mk h5
      · have hcap2 : rs.length < rc := by omega
        clear HF HLC
        go_region
        generalize w.drew = wd at *
        go_wp2
        go_loopw [3, 18] (fun ov iv wr => ov = .slice none 0 0 ∧ iv = .int .i64 0 ∧ wr = wd) (fun _ _ _ => 0)
        case atStart => exact ⟨rfl, rfl, rfl⟩
        case round =>
          obtain ⟨rfl, rfl, rfl⟩ := hrel
          go_wp2
          go_ret
          exact Ret.mk h5
end
end Go.Proofs.Ytjjnadlklfegcaa

namespace Go.Proofs.Ytjjnadlklfegcaa
set_option linter.unusedVariables false
set_option linter.unusedSimpArgs false
open Go.RowKit

def LogS.more (s : LogS) (k : Nat) : LogS := { s with don := s.don + k }
def LogS.through (s : LogS) : LogS := { s with N := [], phase := 0, R := [], told := 0, don := 0, seq := (s.seq + 1) % 18446744073709551616 }
def LogS.stays (s : LogS) : LogS := if s.phase = 6 then { s with durable := s.number - 1 } else s
def LogS.next (s : LogS) : LogS := if s.phase = 0 ∨ s.don < s.R.length then s else if s.phase = 8 then s.through else s.stays.enter (s.phase + 1)
def LogS.didS (s : LogS) (n : Int) : Int × LogS := if n < 0 ∨ (s.told : Int) - s.don < n then (1, s) else (0, (s.more n.toNat).next)
structure LogInv (s : LogS) : Prop where
  seq : s.seq < 18446744073709551616
  start : 0 ≤ s.start ∧ s.start ≤ 4611686018427387904
  num : 1 ≤ s.number ∧ s.number ≤ 4611686018427387904
  now : s.phase ≠ 0 → recErr s.N = 0
  ph : s.phase ≤ 8
  don : s.don ≤ s.told
  told : s.told ≤ s.R.length
  few : s.R.length ≤ 1000
  data : ∀ r ∈ s.R, r.d.length ≤ 1000000
section
variable {w : World} {L : List HP} {pb : Nat} {s : LogS}
set_option maxRecDepth 100000 in
set_option maxHeartbeats 4000000 in
theorem did_ok {n : Int} (ok : LogInv s) (hn : -9223372036854775808 ≤ n ∧ n ≤ 9223372036854775807) (h : SatL w (LogR pb s :: L)) :
    Calls Try.prog 29 #[.pointer (some ⟨pb, 0, none⟩), .int .i64 n] w (Ret fun r w' => r = .int .i64 (s.didS n).1 ∧ SatL w' (LogR pb (s.didS n).2 :: L)) := by
  obtain ⟨oseq, ostart, onum, onow, oph, odon, otold, ofew, odata⟩ := ok
  by_cases h0 : n < 0
  · have e : Hid (s.didS n = (1, s)) := hid (by unfold LogS.didS; rw [if_pos (.inl h0)])
    have hb0 : decide (n < 0) = true := by simpa using h0
    clear onow odata
    go_enter Try.func29, Try.ntmps29
    go_wp2
    go_quiet (fail)
    go_wp2
    go_ret
    rw [e.out]
    exact Ret.mk ⟨rfl, (sat_drewN _).2 h⟩
  · have hb0 : decide (n < 0) = false := by simpa using h0
    obtain ⟨lv, m, nv, mv, rv, hf, h1⟩ := sat_LogR.1 h
    have c6 : w.cell? ⟨pb, 6, none⟩ = some (.int .i64 s.told) := h1.cell (i := 6) rfl
    have c7 : w.cell? ⟨pb, 7, none⟩ = some (.int .i64 s.don) := h1.cell (i := 7) rfl
    have b1 : (s.told : Int) ≤ 1000 := by omega
    have b2 : (s.don : Int) ≤ 1000 := by omega
    have b3 : (0 : Int) ≤ s.told := by omega
    have b4 : (0 : Int) ≤ s.don := by omega
    have bw : IntKind.i64.wrap ((s.told : Int) - s.don) = (s.told : Int) - s.don := IntWalk.i64_in _ (by omega)
    by_cases h9 : (s.told : Int) - s.don < n
    · have e : Hid (s.didS n = (1, s)) := hid (by unfold LogS.didS; rw [if_pos (.inr h9)])
      have hb9 : decide ((s.told : Int) - s.don < n) = true := by simpa using h9
      clear h1 onow odata
      go_enter Try.func29, Try.ntmps29
      go_wp2
      go_quiet (fail)
      go_wp2
      go_ret
      rw [e.out]
      exact Ret.mk ⟨rfl, (sat_drewN _).2 h⟩
    · have hb9 : decide ((s.told : Int) - s.don < n) = false := by simpa using h9
      obtain ⟨k, rfl⟩ : ∃ k : Nat, n = k := ⟨n.toNat, by omega⟩
      have e : s.didS k = (0, (s.more k).next) := by unfold LogS.didS; rw [if_neg (by omega)]; rfl
      have hkt : s.don + k ≤ s.told := by omega
      have b5 : (s.don : Int) + k ≤ 1000 := by omega
      rw [e]
      clear e h
      go_enter Try.func29, Try.ntmps29
      go_wp2
      go_quiet (fail)
      have h2 := (sat_drewN nq).2 h1
      have d7 : (w.drewN nq).cell? ⟨pb, 7, none⟩ = some (.int .i64 s.don) := h2.cell (i := 7) rfl
      have f7 := h2.free 7
      have h3 := h2.set (i := 7) (.int .i64 (s.don + k))
      have e3 : (logCells lv m nv mv rv s).setIfInBounds 7 (.int .i64 (s.don + k)) = logCells lv m nv mv rv (s.more k) := rfl
      rw [e3] at h3
      generalize w.drewN nq = w0 at *
      clear c6 c7 e3 h1 h2
      go_upto_region 4 with fail
      generalize w0.setCell ⟨pb, 7, none⟩ (.int .i64 (s.don + k)) = w1 at *
      clear d7 f7
      have hrv := ReqsL.valn (SatL.pull h3 5 : SatL _ (ReqsL _ _ :: _))
      obtain ⟨ra, rc, rfl, r1, r2⟩ := hrv
      have c4 : w1.cell? ⟨pb, 4, none⟩ = some (.int .i64 s.phase) := h3.cell (i := 4) rfl
      have c5 : w1.cell? ⟨pb, 5, none⟩ = some (.slice ra (s.more k).R.length rc) := h3.cell (i := 5) rfl
      have c7 : w1.cell? ⟨pb, 7, none⟩ = some (.int .i64 (s.don + k)) := h3.cell (i := 7) rfl
      have hRl : (s.more k).R.length = s.R.length := rfl
      rw [hRl] at c5
      by_cases hp0 : s.phase = 0
      · have e : Hid ((s.more k).next = s.more k) := hid (by unfold LogS.next; rw [if_pos (.inl hp0)])
        rw [hp0] at c4
        rw [show ((0 : Nat) : Int) = 0 from rfl] at c4
        have hfin := (sat_LogR (s := s.more k)).2 ⟨lv, m, nv, mv, _, hf, h3⟩
        clear h3 hp0 onow odata hf
        go_quiet (fail)
        go_wp2
        go_ret
        rw [e.out]
        exact Ret.mk ⟨rfl, (sat_drewN _).2 hfin⟩
      · have hpz : ((s.phase : Int) == 0) = false := by simpa using hp0
        by_cases hlt : s.don + k < s.R.length
        · have e : Hid ((s.more k).next = s.more k) := hid (by unfold LogS.next; rw [if_pos (.inr hlt)])
          have hlz : decide ((s.don : Int) + k < s.R.length) = true := by simp; omega
          have hfin := (sat_LogR (s := s.more k)).2 ⟨lv, m, nv, mv, _, hf, h3⟩
          clear h3 onow odata hf hlt
          go_quiet (fail)
          go_wp2
          go_ret
          rw [e.out]
          exact Ret.mk ⟨rfl, (sat_drewN _).2 hfin⟩
        · have hlz : decide ((s.don : Int) + k < s.R.length) = false := by simp; omega
          have en : (s.more k).next = if s.phase = 8 then (s.more k).through else (s.more k).stays.enter (s.phase + 1) := by
            unfold LogS.next
            rw [if_neg (fun h5 => h5.elim hp0 hlt)]
            rfl
          have hrE := onow hp0
          clear hlt onow odata
          go_quiet (fail)
          have h4 := (sat_drewN nq).2 h3
          generalize w1.drewN nq = w2 at *
          clear c4 c5 c7 h3
          have c4 : w2.cell? ⟨pb, 4, none⟩ = some (.int .i64 s.phase) := h4.cell (i := 4) rfl
          by_cases h8 : s.phase = 8
          · have E : Hid ((s.more k).next = (s.more k).through) := hid (by rw [en, if_pos h8])
            rw [h8] at c4
            rw [show ((8 : Nat) : Int) = 8 from rfl] at c4
            obtain ⟨na, nc, rfl, n1, n2⟩ := PutsL.valn (SatL.pull h4 3 : SatL _ (PutsL nv _ :: _))
            have c2 : w2.cell? ⟨pb, 2, none⟩ = some (.slice na s.N.length nc) := h4.cell (i := 2) rfl
            have c3 : w2.cell? ⟨pb, 3, none⟩ = some mv := h4.cell (i := 3) rfl
            have c5 : w2.cell? ⟨pb, 5, none⟩ = some (.slice ra s.R.length rc) := h4.cell (i := 5) rfl
            have c6 : w2.cell? ⟨pb, 6, none⟩ = some (.int .i64 s.told) := h4.cell (i := 6) rfl
            have c7 : w2.cell? ⟨pb, 7, none⟩ = some (.int .i64 (s.don + k)) := h4.cell (i := 7) rfl
            have c9 : w2.cell? ⟨pb, 9, none⟩ = some (.int .u64 s.seq) := h4.cell (i := 9) rfl
            have f2 := h4.free 2
            have f3 := h4.free 3
            have f4 := h4.free 4
            have f5 := h4.free 5
            have f6 := h4.free 6
            have f7 := h4.free 7
            have f9 := h4.free 9
            have hw : IntKind.u64.wrap ((s.seq : Int) + 1) = (((s.seq + 1) % 18446744073709551616 : Nat) : Int) := by
              rcases Nat.lt_or_ge (s.seq + 1) 18446744073709551616 with h5 | h5
              · rw [Nat.mod_eq_of_lt h5]
                have := u64_in (s.seq + 1) h5
                push_cast at this ⊢
                exact this
              · have : s.seq = 18446744073709551615 := by omega
                rw [this]; rfl
            obtain ⟨sq, hsq⟩ : ∃ sq, sq = (s.seq + 1) % 18446744073709551616 := ⟨_, rfl⟩
            rw [← hsq] at hw
            have h5 := ((((((h4.set (i := 2) (.slice none 0 0)).set (i := 3) (.map none)).set (i := 4) (.int .i64 0)).set (i := 5) (.slice none 0 0)).set (i := 6) (.int .i64 0)).set (i := 7) (.int .i64 0)).set (i := 9) (.int .u64 sq)
            have h6 := (sat_GrpN (ks := [])).2 (.inl ⟨rfl, rfl, PutsL.nil h5⟩ : (.map none : Value) = .map none ∧ _ ∨ _)
            have hes : (s.more k).through = ⟨s.L, [], 0, [], 0, 0, s.start, sq, s.number, s.durable⟩ := by rw [hsq]; rfl
            have hfin := (sat_LogR (s := ⟨s.L, [], 0, [], 0, 0, s.start, sq, s.number, s.durable⟩)).2 ⟨lv, m, .slice none 0 0, .map none, .slice none 0 0, ⟨hf.1, Fit.nil⟩, (ReqsL.nil h6).bring [3, 4, 5, 2, 1, 0]⟩
            rw [← hes] at hfin
            clear h4 h5 h6 hes hsq en hf hrE h8 hpz hp0
            go_wp2
            go_ret
            rw [E.out]
            exact Ret.mk ⟨rfl, SatL.to hfin⟩
          · have h8z : ¬ (s.phase : Int) = 8 := by omega
            by_cases h6 : s.phase = 6
            · have E : Hid ((s.more k).next = (s.more k).stays.enter 7) := hid (by rw [en, if_neg h8, h6])
              rw [h6] at c4
              rw [show ((6 : Nat) : Int) = 6 from rfl] at c4
              have c10 : w2.cell? ⟨pb, 10, none⟩ = some (.int .i64 s.number) := h4.cell (i := 10) rfl
              have c11 : w2.cell? ⟨pb, 11, none⟩ = some (.int .i64 s.durable) := h4.cell (i := 11) rfl
              have f11 := h4.free 11
              have hn1 : (1 : Int) ≤ s.number := by omega
              have hn2 : (s.number : Int) ≤ 4611686018427387904 := by omega
              have h5 := h4.set (i := 11) (.int .i64 ((s.number : Int) - 1))
              have e5 : (logCells lv m nv mv (.slice ra s.R.length rc) (s.more k)).setIfInBounds 11 (.int .i64 ((s.number : Int) - 1)) = logCells lv m nv mv (.slice ra s.R.length rc) (s.more k).stays := by
                have e6 : (s.more k).stays = { s.more k with durable := s.number - 1 } := by unfold LogS.stays; rw [if_pos (show (s.more k).phase = 6 from h6)]; rfl
                rw [e6]
                have e7 : ((s.number : Int) - 1) = ((s.number - 1 : Nat) : Int) := by omega
                rw [e7]; rfl
              have est : (s.more k).stays.L = s.L ∧ (s.more k).stays.N = s.N ∧ (s.more k).stays.R = s.R ∧ (s.more k).stays.seq = s.seq ∧ (s.more k).stays.start = s.start := by
                unfold LogS.stays; split <;> exact ⟨rfl, rfl, rfl, rfl, rfl⟩
              obtain ⟨s1, s2, s3, s4, s5⟩ := est
              rw [e5] at h5
              have hfin : SatL _ (LogR pb (s.more k).stays :: L) := (sat_LogR (s := (s.more k).stays)).2 ⟨lv, m, nv, mv, .slice ra s.R.length rc, by rw [s1, s2]; exact hf, by rw [s1, s2, s3]; exact h5⟩
              have hent := enter_ok (s := (s.more k).stays) (p := 7) (by omega) (by rw [s4]; exact oseq) (by rw [s5]; exact ostart) (by rw [s2]; exact hrE) hfin
              rw [show ((7 : Nat) : Int) = 7 from rfl] at hent
              clear h4 h5 e5 hfin en hf hrE h6 h8 h8z hpz hp0 s1 s2 s3 s4 s5
              go_wp2_with (go_at_call 58; (with_reducible refine hent.mono ?_); rintro e w3 ⟨r, rfl, h9⟩)
              go_ret
              rw [E.out]
              exact Ret.mk ⟨rfl, h9⟩
            · have h6z : ¬ (s.phase : Int) = 6 := by omega
              have es : (s.more k).stays = s.more k := by unfold LogS.stays; rw [if_neg (show ¬ (s.more k).phase = 6 from h6)]
              have E : Hid ((s.more k).next = (s.more k).enter (s.phase + 1)) := hid (by rw [en, if_neg h8, es])
              have hfin := (sat_LogR (s := s.more k)).2 ⟨lv, m, nv, mv, _, hf, h4⟩
              have hent := enter_ok (s := s.more k) (p := s.phase + 1) (by omega) oseq ostart hrE hfin
              rw [show ((s.phase + 1 : Nat) : Int) = (s.phase : Int) + 1 by omega] at hent
              have hpb : (s.phase : Int) ≤ 8 := by omega
              have hpb2 : (0 : Int) ≤ s.phase := by omega
              clear h4 hfin en hf hrE h6 h8 es
              go_wp2_with (go_at_call 58; (with_reducible refine hent.mono ?_); rintro e w3 ⟨r, rfl, h9⟩)
              go_ret
              rw [E.out]
              exact Ret.mk ⟨rfl, h9⟩
end
end Go.Proofs.Ytjjnadlklfegcaa

namespace Go.Proofs.Ytjjnadlklfegcaa
set_option linter.unusedVariables false
set_option linter.unusedSimpArgs false
open Go.RowKit

def LogS.at (s : LogS) (p : Nat) : LogS :=
  if p ≤ 8 then { s with phase := p, R := reqsOf s p, told := 0, don := 0, durable := if 7 ≤ p then s.number - 1 else s.durable }
  else { s with N := [], phase := 0, R := [], told := 0, don := 0, seq := (s.seq + 1) % 18446744073709551616, durable := s.number - 1 }
theorem did_all {s : LogS} (h1 : s.told = s.R.length) (h2 : s.don = 0) (h3 : s.phase ≠ 0) : s.didS s.R.length = (0, if s.phase = 8 then (s.more s.R.length).through else (s.more s.R.length).stays.enter (s.phase + 1)) := by
  unfold LogS.didS
  rw [if_neg (by omega)]
  have e : (s.R.length : Int).toNat = s.R.length := by omega
  rw [e]
  have e2 : (s.more s.R.length).next = if s.phase = 8 then (s.more s.R.length).through else (s.more s.R.length).stays.enter (s.phase + 1) := by
    unfold LogS.next
    rw [if_neg]
    · rfl
    · rintro (h | h)
      · exact h3 h
      · have : s.don + s.R.length < s.R.length := h
        omega
  rw [e2]
theorem at_phase (s : LogS) {p : Nat} (hp : 1 ≤ p ∧ p ≤ 8) : (s.at p).phase = p := by unfold LogS.at; rw [if_pos hp.2]
theorem at_next (s : LogS) {p : Nat} (hp : 1 ≤ p ∧ p ≤ 8) : (s.at p).wanted.didS (s.at p).R.length = (0, s.at (p + 1)) := by
  have h1 : (s.at p).wanted.phase = p := at_phase s hp
  have h2 : (s.at p).wanted.don = 0 := by unfold LogS.wanted LogS.at; rw [if_pos hp.2]
  have h := did_all (s := (s.at p).wanted) rfl h2 (by rw [h1]; omega)
  rw [show (s.at p).wanted.R = (s.at p).R from rfl] at h
  rw [h, h1]
  have hc : p = 1 ∨ p = 2 ∨ p = 3 ∨ p = 4 ∨ p = 5 ∨ p = 6 ∨ p = 7 ∨ p = 8 := by omega
  rcases hc with rfl | rfl | rfl | rfl | rfl | rfl | rfl | rfl <;> rfl
theorem enter_at (s : LogS) (h : s.durable = s.durable) : s.enter 1 = s.at 1 := rfl
theorem wreqs_len (st : Int) (ls : List PD) (c : Nat) : (wreqs st ls c).length = c := by simp [wreqs]
theorem flat_le {l : List PD} (h : ∀ p ∈ l, p.2.length = 512) : ((l.map (·.2)).flatten).length ≤ 512 * l.length := by
  induction l with
  | nil => simp
  | cons p l ih =>
    have h1 := h p (by simp)
    have h2 := ih (fun q hq => h q (List.mem_cons_of_mem _ hq))
    simp only [List.map_cons, List.flatten_cons, List.length_append, List.length_cons]
    omega
theorem reqs_small {s : LogS} (hN : recErr s.N = 0) (hf : Fit s.N) (p : Nat) : (reqsOf s p).length ≤ 1000 ∧ ∀ r ∈ reqsOf s p, r.d.length ≤ 1000000 := by
  have hl := hf.1
  unfold reqsOf
  split
  · refine ⟨by simp only [List.length_singleton]; omega, fun r hr => ?_⟩
    rw [List.mem_singleton.1 hr]
    simp only [List.length_replicate]; omega
  split
  · refine ⟨by rw [wreqs_len]; omega, fun r hr => ?_⟩
    obtain ⟨c, hc, rfl⟩ := List.mem_map.1 hr
    unfold wreq
    have h512 : ∀ q ∈ (recAll s.seq s.N).drop 1, q.2.length = 512 := by
      intro q hq
      have hq2 : q ∈ inRow 1 s.N ++ [recEnd s.seq s.N] := hq
      rcases List.mem_append.1 hq2 with h | h
      · obtain ⟨i, x, hx, rfl⟩ := inRow_mem h
        exact hf.len x (List.mem_of_getElem? hx)
      · rw [List.mem_singleton.1 h]; exact endOf_len _ _
    have h1 := flat_le (l := (((recAll s.seq s.N).drop 1).drop (16 * c)).take 16) (fun q hq => h512 q (List.mem_of_mem_drop (List.mem_of_mem_take hq)))
    have h2 : ((((recAll s.seq s.N).drop 1).drop (16 * c)).take 16).length ≤ 16 := by rw [List.length_take]; omega
    simp only
    omega
  split
  · refine ⟨by simp, fun r hr => ?_⟩
    rw [List.mem_singleton.1 hr]
    simp only [headB_len hl]; omega
  split
  · refine ⟨by rw [List.length_map]; omega, fun r hr => ?_⟩
    obtain ⟨q, hq, rfl⟩ := List.mem_map.1 hr
    have := hf.len q hq
    simp only; omega
  · exact ⟨by simp, by simp⟩
/-- what a log must be ahead of a commit -/
structure Runs (s : LogS) : Prop where
  seq : s.seq < 18446744073709551616
  start : 0 ≤ s.start ∧ s.start ≤ 4611686018427387904
  num : 1 ≤ s.number ∧ s.number ≤ 4611686018427387904
  now : recErr s.N = 0
  fit : Fit s.N
theorem Runs.inv {s : LogS} (h : Runs s) {p : Nat} (hp : 1 ≤ p ∧ p ≤ 8) : LogInv (s.at p).wanted := by
  obtain ⟨r1, r2⟩ := reqs_small h.now h.fit p
  have e : s.at p = { s with phase := p, R := reqsOf s p, told := 0, don := 0, durable := if 7 ≤ p then s.number - 1 else s.durable } := by unfold LogS.at; rw [if_pos hp.2]
  rw [e]
  exact ⟨h.seq, h.start, h.num, fun _ => h.now, hp.2, Nat.zero_le _, Nat.le_refl _, r1, r2⟩
theorem Runs.small {s : LogS} (h : Runs s) {p : Nat} (hp : 1 ≤ p ∧ p ≤ 8) : (s.at p).told ≤ (s.at p).R.length ∧ (s.at p).R.length ≤ 1000 ∧ (∀ r ∈ (s.at p).R, r.d.length ≤ 1000000) ∧ (s.at p).R.drop (s.at p).told = (s.at p).R := by
  obtain ⟨r1, r2⟩ := reqs_small h.now h.fit p
  have e : s.at p = { s with phase := p, R := reqsOf s p, told := 0, don := 0, durable := if 7 ≤ p then s.number - 1 else s.durable } := by unfold LogS.at; rw [if_pos hp.2]
  rw [e]
  exact ⟨Nat.zero_le _, r1, r2, rfl⟩
section
variable {w : World} {L : List HP} {pb : Nat} {s : LogS}
theorem want_at {p : Nat} (hr : Runs s) (hp : 1 ≤ p ∧ p ≤ 8) (h : SatL w (LogR pb (s.at p) :: L)) :
    Calls Try.prog 30 #[.pointer (some ⟨pb, 0, none⟩)] w (Ret fun r w' => SatL w' (ReqsL r (s.at p).R :: LogR pb (s.at p).wanted :: L)) := by
  obtain ⟨h1, h2, h3, h4⟩ := hr.small hp
  have := want_ok h h1 h2 h3
  rw [h4] at this
  exact this
theorem did_at {p : Nat} (hr : Runs s) (hp : 1 ≤ p ∧ p ≤ 8) (h : SatL w (LogR pb (s.at p).wanted :: L)) :
    Calls Try.prog 29 #[.pointer (some ⟨pb, 0, none⟩), .int .i64 (s.at p).R.length] w (Ret fun r w' => r = .int .i64 0 ∧ SatL w' (LogR pb (s.at (p + 1)) :: L)) := by
  have hs := (hr.small hp).2.1
  have := did_ok (n := (s.at p).R.length) (hr.inv hp) (by omega) h
  rw [at_next s hp] at this
  exact this
end
end Go.Proofs.Ytjjnadlklfegcaa

namespace Go.Proofs.Ytjjnadlklfegcaa
set_option linter.unusedVariables false
set_option linter.unusedSimpArgs false
open Go.RowKit

def wf (W : List UInt8) (ps : List PD) (a : Int) : List UInt8 := ps.foldl (fun acc p => if p.1 = a then p.2 else acc) W
theorem wf_snoc (W : List UInt8) (ps : List PD) (p : PD) (a : Int) : wf W (ps ++ [p]) a = if p.1 = a then p.2 else wf W ps a := by unfold wf; rw [List.foldl_append]; rfl
theorem gfind_snoc (l : List PD) (p : PD) (a : Int) : gfind (l ++ [p]) a = (gfind l a).or (if p.1 = a then some p.2 else none) := by
  unfold gfind
  rw [List.map_append, List.map_cons, List.map_nil, plc_snoc]
  cases hp : plc (l.map (·.1)) a with
  | some i =>
    have hi := plc_lt hp
    rw [List.length_map] at hi
    simp only [Option.or]
    rw [List.getElem?_append_left hi, List.getElem?_eq_getElem hi]
    rfl
  | none =>
    simp only [Option.none_or]
    by_cases e : p.1 = a
    · rw [if_pos e, if_pos e, List.length_map]; simp
    · rw [if_neg e, if_neg e]
theorem wf_find {l : List PD} (hn : (l.map (·.1)).Nodup) (W : List UInt8) (a : Int) : wf W l a = (gfind l a).getD W := by
  have key : ∀ (r : List PD), (r.reverse.map (·.1)).Nodup → wf W r.reverse a = (gfind r.reverse a).getD W := by
    intro r
    induction r with
    | nil => intro _; rfl
    | cons p r ih =>
      intro h
      rw [List.reverse_cons] at h ⊢
      rw [List.map_append, List.nodup_append] at h
      rw [wf_snoc, gfind_snoc, ih h.1]
      by_cases e : p.1 = a
      · have hno : gfind r.reverse a = none := by
          unfold gfind
          rw [plc_none.2 (fun hm => h.2.2 _ hm a (by simp [e]) rfl)]
        rw [if_pos e, if_pos e, hno]; rfl
      · rw [if_neg e, if_neg e, Option.or_none]
  have := key l.reverse (by rw [List.reverse_reverse]; exact hn)
  rwa [List.reverse_reverse] at this
theorem wf_both {P Q : List PD} (hP : (P.map (·.1)).Nodup) (hQ : (Q.map (·.1)).Nodup) (a : Int) : wf (wf [] P a) Q a = ((gfind Q a).or (gfind P a)).getD [] := by
  rw [wf_find hQ, wf_find hP]
  cases gfind Q a <;> rfl
theorem gputs_nil {P : List PD} (h : (P.map (·.1)).Nodup) : gputs [] P = P := by
  have key : ∀ (r : List PD), (r.reverse.map (·.1)).Nodup → gputs [] r.reverse = r.reverse := by
    intro r
    induction r with
    | nil => intro _; rfl
    | cons p r ih =>
      intro h
      rw [List.reverse_cons] at h ⊢
      rw [List.map_append, List.nodup_append] at h
      rw [gputs_snoc, ih h.1]
      unfold gput
      rw [plc_none.2 (fun hm => h.2.2 _ hm p.1 (by simp) rfl)]
  have := key P.reverse (by rw [List.reverse_reverse]; exact h)
  rwa [List.reverse_reverse] at this
theorem gfind_mem {l : List PD} {a : Int} {d : List UInt8} (h : gfind l a = some d) : ∃ p ∈ l, p.2 = d := by
  unfold gfind at h
  split at h
  · rename_i i hi
    cases hl : l[i]? with
    | none => rw [hl] at h; simp at h
    | some p => rw [hl] at h; simp at h; exact ⟨p, List.mem_of_getElem? hl, h⟩
  · cases h
/-- a group is sound -/
theorem grp_fit {G : List PD} (h : GrpOk G) (hl : G.length ≤ 30) : Fit G ∧ joinE G = 0 ∧ ∀ p ∈ G, p.2.length = 512 := by
  have h1 : ∀ p ∈ G, soundE p = 0 ∧ p.2.length = 512 := by
    intro p hp
    obtain ⟨b1, b2, c, hc⟩ := h.2 p hp
    constructor
    · unfold soundE; rw [if_neg (by omega), if_neg (by rw [hc, putB_len]; simp)]
    · rw [hc, putB_len]
  refine ⟨⟨by omega, fun p hp => (h1 p hp).1⟩, ?_, fun p hp => (h1 p hp).2⟩
  clear h hl
  induction G with
  | nil => rfl
  | cons p G ih =>
    unfold joinE
    rw [if_neg (by rw [(h1 p (by simp)).1]; simp)]
    exact ih fun q hq => h1 q (List.mem_cons_of_mem _ hq)
end Go.Proofs.Ytjjnadlklfegcaa

namespace Go.Proofs.Ytjjnadlklfegcaa
set_option linter.unusedVariables false
set_option linter.unusedSimpArgs false
open Go.RowKit

/-- the phase p, all told, i requests answered -/
def LogS.part (s : LogS) (p i : Nat) : LogS := { (s.at p).wanted with don := i }
theorem part_zero (s : LogS) {p : Nat} (hp : 1 ≤ p ∧ p ≤ 8) : s.part p 0 = (s.at p).wanted := by
  unfold LogS.part LogS.at LogS.wanted
  rw [if_pos hp.2]
theorem part_phase (s : LogS) {p : Nat} (i : Nat) (hp : 1 ≤ p ∧ p ≤ 8) : (s.part p i).phase = p := at_phase s hp
theorem part_R (s : LogS) (p i : Nat) : (s.part p i).R = (s.at p).R := rfl
theorem part_bad (s : LogS) {p i : Nat} (hp : 1 ≤ p ∧ p ≤ 8) : (s.part p i).didS (2 + (s.at p).R.length) = (1, s.part p i) := by
  unfold LogS.didS
  rw [if_pos]
  right
  have h1 : (s.part p i).told = (s.at p).R.length := rfl
  have h2 : (s.part p i).don = i := rfl
  omega
theorem part_step (s : LogS) {p i : Nat} (hp : 1 ≤ p ∧ p ≤ 8) (hi : i + 1 < (s.at p).R.length) : (s.part p i).didS 1 = (0, s.part p (i + 1)) := by
  have h1 : (s.part p i).told = (s.at p).R.length := rfl
  have h2 : (s.part p i).don = i := rfl
  unfold LogS.didS
  rw [if_neg (by omega)]
  have e : ((s.part p i).more (1 : Int).toNat).next = s.part p (i + 1) := by
    unfold LogS.next
    rw [if_pos]
    · rfl
    · right; show i + 1 < (s.at p).R.length; exact hi
  rw [e]
theorem part_last (s : LogS) {p i : Nat} (hp : 1 ≤ p ∧ p ≤ 8) (hi : i + 1 = (s.at p).R.length) : (s.part p i).didS 1 = (0, s.at (p + 1)) := by
  have h1 : (s.part p i).told = (s.at p).R.length := rfl
  have h2 : (s.part p i).don = i := rfl
  have hph : (s.part p i).phase = p := part_phase s i hp
  unfold LogS.didS
  rw [if_neg (by omega)]
  have e : ((s.part p i).more (1 : Int).toNat).next = s.at (p + 1) := by
    unfold LogS.next
    rw [if_neg]
    · show (if (s.part p i).phase = 8 then _ else _) = _
      rw [hph]
      have hc : p = 1 ∨ p = 2 ∨ p = 3 ∨ p = 4 ∨ p = 5 ∨ p = 6 ∨ p = 7 ∨ p = 8 := by omega
      rcases hc with rfl | rfl | rfl | rfl | rfl | rfl | rfl | rfl <;> rfl
    · rintro (h | h)
      · have : p = 0 := hph.symm.trans h
        omega
      · have : i + 1 < (s.at p).R.length := h
        omega
  rw [e]
theorem Runs.partInv {s : LogS} (h : Runs s) {p i : Nat} (hp : 1 ≤ p ∧ p ≤ 8) (hi : i ≤ (s.at p).R.length) : LogInv (s.part p i) := by
  have h1 := h.inv hp
  exact ⟨h1.seq, h1.start, h1.num, h1.now, h1.ph, hi, h1.told, h1.few, h1.data⟩
section
variable {w : World} {L : List HP} {pb : Nat} {s : LogS}
theorem want_again {p : Nat} (hr : Runs s) (hp : 1 ≤ p ∧ p ≤ 8) (h : SatL w (LogR pb (s.part p 0) :: L)) :
    Calls Try.prog 30 #[.pointer (some ⟨pb, 0, none⟩)] w (Ret fun r w' => SatL w' (ReqsL r [] :: LogR pb (s.part p 0) :: L)) := by
  have h1 := (hr.partInv hp (Nat.zero_le _) : LogInv (s.part p 0))
  have h2 := want_ok h (Nat.le_refl _ : (s.part p 0).told ≤ (s.part p 0).R.length) h1.few h1.data
  have e : (s.part p 0).R.drop (s.part p 0).told = [] := List.drop_of_length_le (Nat.le_refl _)
  rw [e] at h2
  exact h2
theorem did_bad {p i : Nat} (hr : Runs s) (hp : 1 ≤ p ∧ p ≤ 8) (hi : i ≤ (s.at p).R.length) (h : SatL w (LogR pb (s.part p i) :: L)) :
    Calls Try.prog 29 #[.pointer (some ⟨pb, 0, none⟩), .int .i64 (2 + (s.at p).R.length)] w (Ret fun r w' => r = .int .i64 1 ∧ SatL w' (LogR pb (s.part p i) :: L)) := by
  have hs := (hr.small hp).2.1
  have := did_ok (n := 2 + (s.at p).R.length) (hr.partInv hp hi) (by omega) h
  rw [part_bad s hp] at this
  exact this
theorem did_one {p i : Nat} (hr : Runs s) (hp : 1 ≤ p ∧ p ≤ 8) (hi : i < (s.at p).R.length) (h : SatL w (LogR pb (s.part p i) :: L)) :
    Calls Try.prog 29 #[.pointer (some ⟨pb, 0, none⟩), .int .i64 1] w (Ret fun r w' => r = .int .i64 0 ∧ SatL w' (LogR pb (if i + 1 < (s.at p).R.length then s.part p (i + 1) else s.at (p + 1)) :: L)) := by
  have := did_ok (n := 1) (hr.partInv hp (Nat.le_of_lt hi)) (by omega) h
  by_cases h1 : i + 1 < (s.at p).R.length
  · rw [part_step s hp h1] at this
    rw [if_pos h1]; exact this
  · rw [part_last s hp (by omega)] at this
    rw [if_neg h1]; exact this
end
end Go.Proofs.Ytjjnadlklfegcaa

namespace Go.Proofs.Ytjjnadlklfegcaa
set_option linter.unusedVariables false
set_option linter.unusedSimpArgs false
open Go.RowKit
section
variable {w : World} {L : List HP}
theorem rq_rdb {rv : Value} {rs : List Rp} {r : Rp} (h : SatL w (ReqsR rv rs :: L)) (hr : r ∈ rs) : RdB r.v r.d w := by
  obtain ⟨a, b, rfl⟩ := List.append_of_mem hr
  have h2 := big_mid.1 (sat_ReqsR.1 h).swap
  have h3 : SatL w (SlB 5 r.v r.d :: _) := h2
  exact SlB.rd h3
theorem rq_val {rv : Value} {rs : List Rp} {r : Rp} (h : SatL w (ReqsR rv rs :: L)) (hr : r ∈ rs) : ∃ a c, r.v = .slice a r.d.length c ∧ r.d.length ≤ c ∧ c ≤ 9223372036854775807 := by
  obtain ⟨a, b, rfl⟩ := List.append_of_mem hr
  have h2 := big_mid.1 (sat_ReqsR.1 h).swap
  have h3 : SatL w (SlB 5 r.v r.d :: _) := h2
  exact SlB.valn h3
theorem rq_addr {qa : Option Addr} {n c : Nat} {rs : List Rp} (h : SatL w (ReqsR (.slice qa n c) rs :: L)) (hn : 0 < rs.length) : ∃ b o, qa = some ⟨b, o, none⟩ := by
  obtain ⟨b, o, h1, _⟩ := (SlK.rdk (sat_ReqsR.1 h)).at hn
  exact ⟨b, o, h1⟩
theorem rq_cells {qb qo n qc k : Nat} {rs : List Rp} {r : Rp} (hr : rs[k]? = some r) (h : SatL w (ReqsR (.slice (some ⟨qb, qo, none⟩) n qc) rs :: L)) :
    w.cell? ⟨qb, qo + k * 4, none⟩ = some (.int .i64 r.k) ∧ w.cell? ⟨qb, qo + k * 4 + 1, none⟩ = some (.int .i64 r.b) ∧ w.cell? ⟨qb, qo + k * 4 + 3, none⟩ = some r.v ∧ RdB r.v r.d w := by
  have h0 : 0 < rs.length := by have := (List.getElem?_eq_some_iff.1 hr).1; omega
  obtain ⟨b', off', hbo, hc⟩ := (SlK.rdk (sat_ReqsR.1 h)).at h0
  cases hbo
  obtain ⟨c1, c2, c3, c4⟩ := rcells_get hr
  exact ⟨hc _ _ c1, by rw [Nat.add_assoc]; exact hc _ _ c2, by rw [Nat.add_assoc]; exact hc _ _ c4, rq_rdb h (List.mem_of_getElem? hr)⟩
end
theorem rqs_one {rq : List Rp} {x : Rq} (h : rqs rq = [x]) : ∃ r : Rp, rq[0]? = some r ∧ r.k = x.k ∧ r.b = x.b ∧ r.d = x.d := by
  match rq, h with
  | [r], h => cases h; exact ⟨r, rfl, rfl, rfl, rfl⟩
theorem rqs_nth {rq : List Rp} {R : List Rq} (h : rqs rq = R) {k : Nat} {x : Rq} (hx : R[k]? = some x) : ∃ r : Rp, rq[k]? = some r ∧ r.k = x.k ∧ r.b = x.b ∧ r.d = x.d := by
  subst h
  rw [List.getElem?_map] at hx
  obtain ⟨r, hr, rfl⟩ := Option.map_eq_some_iff.1 hx
  exact ⟨r, hr, rfl, rfl, rfl⟩
theorem rqs_len {rq : List Rp} {R : List Rq} (h : rqs rq = R) : rq.length = R.length := by subst h; rw [List.length_map]
theorem reqs_1 (s : LogS) : reqsOf s 1 = [⟨1, s.start, 0, List.replicate 512 0⟩] := if_pos rfl
theorem reqs_3 (s : LogS) : reqsOf s 3 = wreqs s.start ((recAll s.seq s.N).drop 1) ((s.N.length + 1 + 15) / 16) := by unfold reqsOf; rw [if_neg (by decide), if_pos rfl]
theorem reqs_5 (s : LogS) : reqsOf s 5 = [⟨1, s.start, 0, headB s.seq s.N⟩] := by unfold reqsOf; rw [if_neg (by decide), if_neg (by decide), if_pos rfl]
theorem reqs_7 (s : LogS) : reqsOf s 7 = s.N.map fun q => ⟨1, q.1, 0, q.2⟩ := by unfold reqsOf; rw [if_neg (by decide), if_neg (by decide), if_neg (by decide), if_pos rfl]
theorem reqs_else (s : LogS) {p : Nat} (h1 : p ≠ 1) (h3 : p ≠ 3) (h5 : p ≠ 5) (h7 : p ≠ 7) : reqsOf s p = [⟨4, 0, 0, []⟩] := by unfold reqsOf; rw [if_neg h1, if_neg h3, if_neg h5, if_neg h7]
end Go.Proofs.Ytjjnadlklfegcaa

namespace Go.Proofs.Ytjjnadlklfegcaa
set_option linter.unusedVariables false
set_option linter.unusedSimpArgs false
open Go.RowKit
theorem flat512_len : ∀ {l : List PD}, (∀ p ∈ l, p.2.length = 512) → ((l.map (·.2)).flatten).length = 512 * l.length
  | [], _ => rfl
  | p :: l, h => by
    have h1 := h p (by simp)
    have h2 := flat512_len (l := l) fun q hq => h q (List.mem_cons_of_mem _ hq)
    simp only [List.map_cons, List.flatten_cons, List.length_append, List.length_cons, h1, h2]
    omega
theorem flat512_at : ∀ {l : List PD} {k : Nat} {p : PD}, (∀ p ∈ l, p.2.length = 512) → l[k]? = some p → (((l.map (·.2)).flatten).take (512 * k + 512)).drop (512 * k) = p.2
  | [], k, p, _, h => by simp at h
  | q :: l, 0, p, hh, h => by
    have h0 : q = p := by simpa using h
    subst h0
    have h1 := hh q (by simp)
    simp only [List.map_cons, List.flatten_cons, Nat.mul_zero, Nat.zero_add, List.drop_zero]
    rw [List.take_append_of_le_length (by omega), List.take_of_length_le (by omega)]
  | q :: l, k + 1, p, hh, h => by
    have h1 := hh q (by simp)
    have h2 := flat512_at (l := l) (k := k) (p := p) (fun q hq => hh q (List.mem_cons_of_mem _ hq)) (by simpa using h)
    simp only [List.map_cons, List.flatten_cons]
    rw [List.take_append, List.drop_append, List.drop_of_length_le (by rw [List.length_take]; omega), List.nil_append, List.length_take, h1]
    rw [show min (512 * (k + 1) + 512) 512 = 512 by omega, show 512 * (k + 1) + 512 - 512 = 512 * k + 512 by omega, show 512 * (k + 1) - 512 = 512 * k by omega]
    exact h2
/-- the rest of a record: rows 1 up to the end -/
def recTail (seq : Nat) (l : List PD) : List PD := (recAll seq l).drop 1
theorem recTail_eq (seq : Nat) (l : List PD) : recTail seq l = inRow 1 l ++ [recEnd seq l] := rfl
theorem recTail_len (seq : Nat) (l : List PD) : (recTail seq l).length = l.length + 1 := by rw [recTail_eq, List.length_append, inRow_len]; rfl
theorem recTail_at {seq : Nat} {l : List PD} {j : Nat} {p : PD} (h : (recTail seq l)[j]? = some p) : p.1 = ((1 + j : Nat) : Int) := by
  rw [recTail_eq] at h
  by_cases hj : j < l.length
  · rw [List.getElem?_append_left (by rw [inRow_len]; exact hj), inRow_get (List.getElem?_eq_getElem hj)] at h
    cases h; rfl
  · rw [List.getElem?_append_right (by rw [inRow_len]; omega), inRow_len] at h
    have h1 := (List.getElem?_eq_some_iff.1 h).1
    have hj2 : j = l.length := by simp at h1; omega
    subst hj2
    rw [Nat.sub_self] at h
    cases h; rfl
theorem recTail_512 {seq : Nat} {l : List PD} (h : recErr l = 0) : ∀ p ∈ recTail seq l, p.2.length = 512 := fun p hp => (recAll_ok (seq := seq) h p (List.mem_of_mem_drop hp)).1
theorem wreqs_get {st : Int} {ls : List PD} {n c : Nat} (h : c < n) : (wreqs st ls n)[c]? = some (wreq st ls (16 * c)) := by
  unfold wreqs
  rw [List.getElem?_map, List.getElem?_range h, Option.map_some]
theorem wreq_len {st : Int} {ls : List PD} (h5 : ∀ p ∈ ls, p.2.length = 512) (i : Nat) : (wreq st ls i).d.length = 512 * min 16 (ls.length - i) := by
  show ((((ls.drop i).take 16).map (·.2)).flatten).length = _
  rw [flat512_len (fun q hq => h5 q (List.mem_of_mem_drop (List.mem_of_mem_take hq))), List.length_take, List.length_drop]
theorem wreq_at {st : Int} {ls : List PD} {i k : Nat} {p : PD} (h5 : ∀ p ∈ ls, p.2.length = 512) (hk : k < 16) (h : ls[i + k]? = some p) : ((wreq st ls i).d.take (512 * k + 512)).drop (512 * k) = p.2 := by
  show (((((ls.drop i).take 16).map (·.2)).flatten).take _).drop _ = _
  refine flat512_at (fun q hq => h5 q (List.mem_of_mem_drop (List.mem_of_mem_take hq))) ?_
  rw [List.getElem?_take, if_pos hk, List.getElem?_drop]; exact h
theorem wreq_b {st : Int} {seq : Nat} {l : List PD} {i : Nat} (h : i < l.length + 1) : (wreq st (recTail seq l) i).b = st + ((1 + i : Nat) : Int) := by
  have h1 : i < (recTail seq l).length := by rw [recTail_len]; exact h
  have h2 := List.getElem?_eq_getElem h1
  show st + (((recTail seq l)[i]?.map (·.1)).getD 0) = _
  rw [h2, Option.map_some, Option.getD_some, recTail_at h2]
end Go.Proofs.Ytjjnadlklfegcaa

namespace Go.Proofs.Ytjjnadlklfegcaa
set_option linter.unusedVariables false
set_option linter.unusedSimpArgs false
open Go.RowKit

def oA (st : Int) (P : List PD) : LogS := ⟨P, [], 0, [], 0, 0, st, 9, 1, 0⟩
def oB (st : Int) (P : List PD) : LogS := ⟨[], P, 0, [], 0, 0, st, 9, 2, 0⟩
theorem order_join {P : List PD} (st : Int) (h : GrpOk P) (hl : P.length ≤ 30) : (logNew st 9).join P = (1, 0, oA st P) := by
  obtain ⟨h1, h2, h3⟩ := grp_fit h hl
  unfold LogS.join
  rw [if_neg (by rw [h2]; simp), show (logNew st 9).L = [] from rfl, gputs_nil h.1, if_neg (by omega)]
  rfl
theorem order_start {P : List PD} (st : Int) (hn : P ≠ []) : (oA st P).startS = (0, (oB st P).at 1) := by
  unfold LogS.startS
  rw [if_neg (show ¬ (oA st P).phase ≠ 0 from fun h => h rfl), if_neg (show ¬ (oA st P).L = [] from hn)]
  rfl
theorem oB_runs {P : List PD} {st : Int} (hs : 0 ≤ st ∧ st < 1000) (h : GrpOk P) (hl : P.length ≤ 30) (hn : P ≠ []) : Runs (oB st P) :=
  ⟨by show (9 : Nat) < _; omega, by show (0 : Int) ≤ st ∧ st ≤ _; omega, by show (1 : Nat) ≤ 2 ∧ (2 : Nat) ≤ _; omega, fit_sound (grp_fit h hl).1 h.1 hn, (grp_fit h hl).1⟩

theorem at_R (s : LogS) {p : Nat} (hp : 1 ≤ p ∧ p ≤ 8) : (s.at p).R = reqsOf s p := by unfold LogS.at; rw [if_pos hp.2]
theorem reqs_kind {s : LogS} {p : Nat} (ho : p % 2 = 1) {r : Rq} (h : r ∈ reqsOf s p) (hp : p ≤ 8 := by omega) : r.k = 1 := by
  unfold reqsOf at h
  split at h
  · rw [List.mem_singleton.1 h]
  split at h
  · obtain ⟨c, hc, rfl⟩ := List.mem_map.1 h; rfl
  split at h
  · rw [List.mem_singleton.1 h]
  split at h
  · obtain ⟨q, hq, rfl⟩ := List.mem_map.1 h; rfl
  · omega
theorem recErr_P {st : Int} {P : List PD} (h : Runs (oB st P)) : recErr P = 0 := h.now
theorem order_req7 {st : Int} {P : List PD} {ps : List Pt} (hp : pds ps = P) {rq : List Rp} (h : rqs rq = reqsOf (oB st P) 7) {k : Nat} {pk : Pt} (hk : ps[k]? = some pk) : ∃ r : Rp, rq[k]? = some r ∧ r.b = pk.b ∧ r.d = pk.d := by
  have hx : (reqsOf (oB st P) 7)[k]? = some ⟨1, pk.b, 0, pk.d⟩ := by
    rw [reqs_7]
    have e : (oB st P).N = pds ps := hp.symm
    rw [e, List.getElem?_map, pds_get hk]
    rfl
  obtain ⟨r, hr, _, hb, hd⟩ := rqs_nth h hx
  exact ⟨r, hr, hb, hd⟩

set_option maxRecDepth 100000 in
set_option maxHeartbeats 16000000 in
theorem order_walk (a0 : Option Addr) (l0 c0 : Nat) (A0 S0 : Nat → Int) (B0 : Nat → Nat) (a1 : Int) (w : World)
    (hC0 : BlkRow a0 l0 A0 S0 B0 w) (hB0 : ∀ i, B0 i < 256) :
    Calls Try.prog 9 #[.slice a0 l0 c0, .int .i64 a1] w (Ret fun v w' => v = .bool true ∧ SatL w' [old w]) := by
  have hk := known_ok (sat_old w)
  have hg0 : Gives [old w] (BlkRow a0 l0 A0 S0 B0) := gives_row hC0
  by_cases hG : grpOf l0 A0 B0 = []
  · have hn0 := fun (w' : World) (h : SatL w' [old w]) => group_no (c := c0) (T := 23) hB0 hG h hg0
    clear hC0 hB0 hG
    go_enter Try.func9, Try.ntmps9
    go_wp2_with (first
      | (go_at_call 11; (with_reducible refine hk.mono ?_); rintro e w1 ⟨v, rfl, rfl, h1⟩)
      | (go_at_call 19; (with_reducible refine (hn0 _ h1).mono ?_); rintro e w2 ⟨r, rfl, ga, gc, rfl, h2⟩))
    go_ret
    exact ⟨_, rfl, rfl, h2⟩
  · have hn0 := fun (w' : World) (h : SatL w' [old w]) => group_yes (c := c0) (T := 23) hB0 hG h hg0
    have okP := grpOf_ok l0 A0 B0
    have lnP := grpOf_len l0 A0 B0
    generalize grpOf l0 A0 B0 = P at *
    have hwi := fun (w : World) => within_ok a1 1000 (by omega) w
    have hb0 := within_bd a1 1000 (by omega)
    generalize withinI a1 1000 = st at *
    have hP : recErr P = 0 := fit_sound (grp_fit okP lnP).1 okP.1 hG
    have hLP : recLast 9 P = (((1 + P.length : Nat) : Int), endB 9 P) := by unfold recLast; rw [if_pos hP]; rfl
    have hOP : recOut 9 P = recRows 9 P := by unfold recOut; rw [if_pos hP]
    have hrP := fun (w' : World) (lv : Value) (ps : List Pt) (L : List HP) (hp : pds ps = P) (h : SatL w' (PutsR lv ps :: L)) => record_of (seq := 9) (by omega) hp hLP hP hOP (by omega) h
    rw [show ((9 : Nat) : Int) = 9 from rfl] at hrP
    obtain ⟨tP, htP⟩ : ∃ t : Int, t = ((1 + P.length : Nat) : Int) := ⟨_, rfl⟩
    simp only [← htP] at hrP
    have hnew := fun (w' : World) (L : List HP) (h : SatL w' L) => new_ok (start := st) (seq := 9) hb0.1 h
    rw [show ((9 : Nat) : Int) = 9 from rfl] at hnew
    have hst1 := fun (w' : World) (pb : Nat) (L : List HP) (h : SatL w' (LogR pb (oA st P) :: L)) => start_ok h (by show (9 : Nat) < _; omega) (by show (0 : Int) ≤ st ∧ st ≤ _; omega) (by show (1 : Nat) ≤ _; omega)
    simp only [order_start st hG] at hst1
    have hj1 := fun (w' : World) (pb : Nat) (v : Value) (ps : List Pt) (L : List HP) (hps : pds ps = P) (h : SatL w' (LogR pb (logNew st 9) :: L)) (g : Gives L (RdPD v ps)) => join_ok h g (by have := congrArg List.length hps; rw [List.length_map] at this; omega)
      (fun p hp => by have := (grp_fit okP lnP).2.2 (p.b, p.d) (by rw [← hps]; exact List.mem_map_of_mem hp); simp only at this; omega)
    have HE1 := hid (order_join st okP lnP)
    have RB := hid (oB_runs hb0 okP lnP hG)
    have OkP := hid okP
    have HnP := hid hG
    have HtP := hid htP
    have Hst := hid hb0
    clear hC0 hB0 hG okP hP hLP hOP htP hb0
    go_enter Try.func9, Try.ntmps9
    go_upto_region 16 with (first
      | (go_at_call 11; (with_reducible refine hk.mono ?_); rintro e w1 ⟨v, rfl, rfl, h1⟩)
      | (go_at_call 19; (with_reducible refine (hn0 _ h1).mono ?_); rintro e w2 ⟨r, rfl, gb, go, gc, ua, uc, ps, rfl, hps, h2⟩; have Hps := hid hps; clear hps)
      | (go_at_call 21; (with_reducible refine (hwi _).mono ?_); rintro e w3 ⟨rfl, rfl⟩)
      | (go_at_call 22; (with_reducible refine (hnew _ _ h2).mono ?_); rintro e w4 ⟨r, rfl, pb, rfl, h4⟩; have cP := Sl.cell (SatL.pull h4 1 : SatL w4 (Sl _ _ _ :: _)) (i := 0) rfl; rw [Nat.add_zero] at cP; have hj1' := hj1 _ _ _ _ _ Hps.out h4 (fun w' h' => PutsR.rdpd (SatL.pull h' 1 : SatL w' (PutsR _ _ :: _))); rw [Hps.out, HE1.out] at hj1')
      | (go_at_call 23; (with_reducible refine hj1'.mono ?_); rintro e w5 ⟨r, rfl, rfl, h5⟩; clear hj1'; have hst1' := hst1 _ _ _ h5)
      | (go_at_call 26; (with_reducible refine hst1'.mono ?_); rintro e w6 ⟨r, rfl, rfl, h6⟩; have cQ := Sl.cell (SatL.pull h6 1 : SatL w6 (Sl _ _ _ :: _)) (i := 0) rfl; rw [Nat.add_zero] at cQ; have hr1 := hrP _ _ _ _ Hps.out (SatL.pull h6 2 : SatL w6 (PutsR _ _ :: _)))
      | (go_at_call 13; (with_reducible refine hr1.mono ?_); rintro e w7 ⟨v, rfl, ov, ea, en, ec, rfl, h7⟩; clear hr1; have h8 := SatL.alloc h7 (.cells #[.int .i64 tP, .slice ea en ec] 29)))
    have zP : 0 < ps.length := by
      have h1 := congrArg List.length Hps.out
      rw [List.length_map] at h1
      have := List.length_pos_iff.2 HnP.out
      omega
    have h9 : SatL _ (LogR pb ((oB st P).at 1) :: PutsL ov (recRows 9 P) :: SlB 5 (.slice ea en ec) (endB 9 P) :: pt w7.heap.size (.cells #[.int .i64 tP, .slice ea en ec] 29) :: PutsR (.slice ua ps.length uc) ps :: Sl 25 (.slice (some ⟨gb, go, none⟩) 1 gc) [.slice ua ps.length uc] :: [old w]) := h8.bring [4, 1, 2, 0, 3]
    obtain ⟨R, hR⟩ : ∃ R, R = (PutsL ov (recRows 9 P) :: SlB 5 (.slice ea en ec) (endB 9 P) :: pt w7.heap.size (.cells #[.int .i64 tP, .slice ea en ec] 29) :: PutsR (.slice ua ps.length uc) ps :: Sl 25 (.slice (some ⟨gb, go, none⟩) 1 gc) [.slice ua ps.length uc] :: [old w]) := ⟨_, rfl⟩
    rw [← hR] at h9
    have HR := hid hR
    have fP : ∀ (w' : World), SatL w' R → w'.cell? ⟨gb, go, none⟩ = some (.slice ua ps.length uc) ∧ RdPD (.slice ua ps.length uc) ps w' := by
      intro w' h
      rw [hR] at h
      have x1 := Sl.cell (SatL.pull h 4 : SatL w' (Sl _ _ _ :: _)) (i := 0) rfl
      rw [Nat.add_zero] at x1
      exact ⟨x1, PutsR.rdpd (SatL.pull h 3 : SatL w' (PutsR _ _ :: _))⟩
    have fO : ∀ (w' : World), SatL w' R → SatL w' [old w] := by
      intro w' h
      rw [hR] at h
      exact h.tail.tail.tail.tail.tail
    have FP := hid fP
    have FO := hid fO
    obtain ⟨oa, oc, rfl, o1, o2⟩ := PutsL.valn h7
    clear hR fP fO h1 h2 h4 h5 h6 h7 h8 cP cQ hn0 hg0 hj1 hst1 hst1' hnew hk hwi hrP
    generalize w7.alloc (.cells #[.int .i64 tP, .slice ea en ec] 29) = wA at *
    go_wp2
    go_loopw [13] (fun iv wr => ∃ p : Nat, 1 ≤ p ∧ p ≤ 9 ∧ iv = .int .i64 p ∧ SatL wr (LogR pb ((oB st P).at p) :: R)) (fun iv _ => 9 - (intOf iv).toNat)
    case atStart => exact ⟨1, by omega, by omega, rfl, h9⟩
    case round =>
      clear h9
      obtain ⟨p, hp1, hp9, rfl, hs⟩ := hrel
      by_cases hp8 : p ≤ 8
      · have hpp : 1 ≤ p ∧ p ≤ 8 := ⟨hp1, hp8⟩
        have eph := at_phase (oB st P) hpp
        have hph := phase_ok hs
        rw [eph] at hph
        have hbu := fun (w' : World) (h : SatL w' (LogR pb ((oB st P).at p) :: R)) => start_busy h (by rw [eph]; omega)
        have hdu := fun (w' : World) (h : SatL w' (LogR pb ((oB st P).at p) :: R)) => durable_ok h
        have hdv : ((oB st P).at p).durable = if 7 ≤ p then 1 else 0 := by unfold LogS.at; rw [if_pos hp8]; rfl
        have hdb : ((((oB st P).at p).durable : Int) == 1) = decide ((7 : Int) ≤ p) := by
          rw [hdv]
          by_cases h7 : 7 ≤ p
          · rw [if_pos h7, decide_eq_true (by omega)]; rfl
          · rw [if_neg h7, decide_eq_false (by omega)]; rfl
        have hwa := fun (w' : World) (h : SatL w' (LogR pb ((oB st P).at p) :: R)) => want_at RB.out hpp h
        have hwg := fun (w' : World) (L : List HP) (h : SatL w' (LogR pb ((oB st P).part p 0) :: L)) => want_again RB.out hpp h
        have hqn : 0 < ((oB st P).at p).R.length := by
          have e : ((oB st P).at p).R = reqsOf (oB st P) p := by unfold LogS.at; rw [if_pos hp8]
          rw [e]
          have hl : 0 < P.length := List.length_pos_iff.2 HnP.out
          unfold reqsOf
          split
          · simp only [List.length_singleton]; omega
          split
          · rw [wreqs_len]; show 0 < (P.length + 1 + 15) / 16; omega
          split
          · simp only [List.length_singleton]; omega
          split
          · rw [List.length_map]; exact hl
          · simp only [List.length_singleton]; omega
        have hqz : ¬ (((oB st P).at p).R.length : Int) = 0 := by omega
        have hpz : (p : Int) ≤ 8 := by omega
        have hsm := (RB.out.small hpp).2.1
        have Hdv := hid hdv
        have Eph := hid eph
        generalize ((oB st P).at p).durable = dv at *
        clear hdv eph
        rw [part_zero _ hpp] at hwg
        go_upto_block 2 with (first
          | (go_at_call 27; (with_reducible refine hph.mono ?_); rintro e w2 ⟨r, rfl, rfl, g1⟩; have hbu' := hbu _ g1)
          | (go_at_call 26; (with_reducible refine hbu'.mono ?_); rintro e w3 ⟨r, rfl, rfl, g2⟩; have hdu' := hdu _ g2)
          | (go_at_call 31; (with_reducible refine hdu'.mono ?_); rintro e w4 ⟨r, rfl, rfl, g3⟩; have hwa' := hwa _ g3; have t1 : True := trivial)
          | (have _t := t1; go_at_call 30; (with_reducible refine hwa'.mono ?_); rintro e w5 ⟨r, rfl, g4⟩; clear t1; obtain ⟨qa, qc, rfl, q1, q2⟩ := ReqsL.valn g4; have hwg' := hwg _ _ (SatL.swap g4); have t2 : True := trivial)
          | (have _t := t2; go_at_call 30; (with_reducible refine hwg'.mono ?_); rintro e w6 ⟨r, rfl, g5⟩; clear t2; obtain ⟨ra, rc, rfl, _, _⟩ := ReqsL.valn g5; have g6 := SatL.tail g5))
        obtain ⟨n, hn⟩ : ∃ n : Nat, n = ((oB st P).at p).R.length := ⟨_, rfl⟩
        obtain ⟨Rs, hRs⟩ : ∃ Rs, Rs = ((oB st P).at p).R := ⟨_, rfl⟩
        rw [← hn] at g6 hqn hsm ⊢
        rw [← hRs] at g6
        have Hn := hid hn
        have HRs := hid hRs
        have HG6 := hid g6
        clear g1 g2 g3 g4 g5 g6 hs hbu hbu' hdu hdu' hwa hwa' hwg hwg' hph hqz hn hRs
        go_cut [15, 16, 17, 18, 19] from 73 to 341 (fun _ _ _ _ _ wr => SatL wr (LogR pb ((oB st P).at p).wanted :: ReqsL (.slice qa n qc) Rs :: R))
        case first =>
          have g6 := HG6.out
          obtain ⟨rq, hrq, g7⟩ := sat_ReqsL.1 (SatL.swap g6)
          have hrn : rq.length = n := by rw [Hn.out, ← HRs.out, ← hrq, List.length_map]
          obtain ⟨qb, qo, rfl⟩ := rq_addr g7 (by omega)
          have hR : rqs rq = reqsOf (oB st P) p := by rw [hrq, HRs.out, at_R _ hpp]
          have Hrn := hid hrn
          have HR2 := hid hR
          clear hrn hR hrq g6
          by_cases p1 : p = 1
          · as_aux_lemma => -- K1
              obtain ⟨z, hz⟩ : ∃ z : List UInt8, z = List.replicate 512 0 := ⟨_, rfl⟩
              obtain ⟨r, hr, _, hb, hd⟩ := rqs_one (x := ⟨1, st, 0, z⟩) (by rw [HR2.out, p1, reqs_1, hz]; rfl)
              have hn1 : ((n : Int) == 1) = true := by
                have : rq.length = 1 := by rw [rqs_len HR2.out, p1, reqs_1]; rfl
                rw [← Hrn.out, this]; rfl
              have hn2 : ((n : Int) != 1) = false := by unfold bne; rw [hn1]; rfl
              have hst : (st != st) = false := by simp
              have hp1 : ((p : Int) == 1) = true := by rw [p1]; rfl
              obtain ⟨da, dc, hv, _, _⟩ := rq_val g7 (List.mem_of_getElem? hr)
              have fQ := fun (w' : World) (h : SatL w' (ReqsR (.slice (some ⟨qb, qo, none⟩) n qc) rq :: LogR pb ((oB st P).at p).wanted :: R)) => rq_cells hr h
              simp only [hv, hb, hd, Nat.zero_mul, Nat.add_zero] at fQ
              have hzl : z.length = 512 := by rw [hz, List.length_replicate]
              rw [hzl] at fQ
              have FQ := hid fQ
              have Hz := hid hz
              have G7 := hid g7
              clear hz hr hv hb hd hzl p1 fQ g7
              go_upto_region 28 with fail
              have g7 := G7.out
              have g8 : SatL w6.drew (ReqsR (.slice (some ⟨qb, qo, none⟩) n qc) rq :: LogR pb ((oB st P).at p).wanted :: R) := g7
              obtain ⟨_, d1, d3, dv⟩ := FQ.out _ g8
              have dv1 := RdB.conv dv
              obtain ⟨wm, hm, hsm⟩ := run_make_sl elem_byte g8 512 (by omega) (by omega)
              obtain ⟨_, m1, m3, mv⟩ := FQ.out _ hsm.tail
              have mv1 := RdB.conv mv
              have hsz : SatL wm (SlB 5 (.slice (some ⟨w6.drew.heap.size, 0, none⟩) 512 512) z :: ReqsR (.slice (some ⟨qb, qo, none⟩) n qc) rq :: LogR pb ((oB st P).at p).wanted :: R) := by rw [Hz.out]; unfold SlB; rw [bvs_zeros]; exact hsm
              have mv2 := RdB.conv (SlB.rd hsz)
              rw [show w6.drew.heap.size = w6.heap.size from rfl] at mv2
              have HSM := hid hsm.tail
              rw [show ((512 : Nat) : Int) = 512 from rfl] at hm
              clear g7 g8 dv mv hsm hsz
              first | go_region_held (fun w' => w'.cell? ⟨qb, qo + 1, none⟩ = some (.int .i64 st) ∧ w'.cell? ⟨qb, qo + 3, none⟩ = some (.slice da 512 dc) ∧ (convert 27 9 (.slice da 512 dc)).run Try.prog w' = .ok (.string ⟨z.toArray⟩) w') (first | exact ⟨d1, d3, dv1⟩ | exact ⟨m1, m3, mv1⟩ | go_keep) (first
                | fail "no") | fail "region 28"
              all_goals
                go_wp2
                go_meet
                exact SatL.swap (sat_ReqsL.2 ⟨rq, by rw [HR2.out, ← at_R _ hpp, HRs.out], SatL.swap (SatL.swap HSM.out)⟩)
          by_cases p5 : p = 5
          · as_aux_lemma => -- K5
              obtain ⟨z, hz⟩ : ∃ z : List UInt8, z = headB 9 P := ⟨_, rfl⟩
              obtain ⟨r, hr, _, hb, hd⟩ := rqs_one (x := ⟨1, st, 0, z⟩) (by rw [HR2.out, p5, reqs_5, hz]; rfl)
              have hn1 : ((n : Int) == 1) = true := by
                have : rq.length = 1 := by rw [rqs_len HR2.out, p5, reqs_5]; rfl
                rw [← Hrn.out, this]; rfl
              have hn2 : ((n : Int) != 1) = false := by unfold bne; rw [hn1]; rfl
              have b1 : ((p : Int) == 1) = false := by rw [p5]; rfl
              have b3 : ((p : Int) == 3) = false := by rw [p5]; rfl
              have b5 : ((p : Int) == 5) = true := by rw [p5]; rfl
              obtain ⟨da, dc, hv, _, _⟩ := rq_val g7 (List.mem_of_getElem? hr)
              have fQ := fun (w' : World) (h : SatL w' (ReqsR (.slice (some ⟨qb, qo, none⟩) n qc) rq :: LogR pb ((oB st P).at p).wanted :: R)) => rq_cells hr h
              simp only [hv, hb, hd, Nat.zero_mul, Nat.add_zero] at fQ
              obtain ⟨_, d1, d3, dv⟩ := fQ _ g7
              have gr : SatL w6 (PutsL (.slice oa (recRows 9 P).length oc) (recRows 9 P) :: _) := HR.out ▸ (SatL.tail (SatL.tail g7))
              obtain ⟨xs, hxs, gx⟩ := sat_PutsL.1 gr
              obtain ⟨x, hx, hxd⟩ : ∃ x : Pt, xs[0]? = some x ∧ x.d = z := by
                match xs, hxs with
                | x :: _, h => exact ⟨x, rfl, by rw [hz]; injection h with h1 _; exact congrArg Prod.snd h1⟩
              have rx := PutsR.rdpd gx
              obtain ⟨ob, oo, rfl, _⟩ := rx.1.1.at (by have := (List.getElem?_eq_some_iff.1 hx).1; omega)
              have x1 := (RdPts.cell2 rx.1 hx).2
              have xv := rx.2 _ (List.mem_of_getElem? hx)
              obtain ⟨xa, xc, hxv, _, _⟩ := rx.1.2 _ (List.mem_of_getElem? hx)
              rw [hxd] at xv hxv
              rw [hxv] at x1 xv
              rw [Nat.zero_mul, Nat.add_zero] at x1
              have v1 := fun m => RdB.conv (RdB.drewN dv m)
              have v2 := fun m => RdB.conv (RdB.drewN xv m)
              have hx0 : (0 : Int) < (recRows 9 P).length := by
                have : (recRows 9 P).length = (inRow 1 P).length + 1 := rfl
                omega
              have G7 := hid g7
              clear hz hr hv hb hd p5 fQ g7 dv xv gr gx hxs hx rx hxv
              go_upto_region 47 with fail
              go_quiet (fail)
              go_wp2
              go_meet
              exact (sat_drewN _).2 (SatL.swap (sat_ReqsL.2 ⟨rq, by rw [HR2.out, ← at_R _ hpp, HRs.out], G7.out⟩))
          by_cases p7 : p = 7
          · as_aux_lemma => -- K7
              have hnp : n = ps.length := by
                rw [← Hrn.out, rqs_len HR2.out, p7, reqs_7, List.length_map]
                have := congrArg List.length Hps.out
                rw [List.length_map] at this
                exact this.symm
              subst hnp
              have b1 : ((p : Int) == 1) = false := by rw [p7]; rfl
              have b3 : ((p : Int) == 3) = false := by rw [p7]; rfl
              have b5 : ((p : Int) == 5) = false := by rw [p7]; rfl
              have b7 : ((p : Int) == 7) = true := by rw [p7]; rfl
              have hreq := fun k pk hk => order_req7 (st := st) (k := k) (pk := pk) Hps.out (by rw [HR2.out, p7]) hk
              have HRQ := hid hreq
              obtain ⟨n1, _⟩ := FP.out _ (SatL.tail (SatL.tail g7))
              have G7 := hid g7
              clear g7 p7 hreq p1 p5
              go_wp2
              go_loopw [19] (fun iv wr => ∃ k : Nat, k ≤ ps.length ∧ iv = .int .i64 k ∧ SatL wr (ReqsR (.slice (some ⟨qb, qo, none⟩) ps.length qc) rq :: LogR pb ((oB st P).at p).wanted :: R)) (fun iv _ => ps.length - (intOf iv).toNat)
              case atStart => exact ⟨0, by omega, rfl, G7.out⟩
              case round =>
                clear n1
                obtain ⟨k, hkn, rfl, hs⟩ := hrel
                by_cases hlt : k < ps.length
                · have hltz : (k : Int) < ps.length := by omega
                  have hpk : ps[k]? = some ps[k] := List.getElem?_eq_getElem hlt
                  obtain ⟨r, hr, hb, hd⟩ := HRQ.out _ _ hpk
                  obtain ⟨da, dc, hv, _, _⟩ := rq_val hs (List.mem_of_getElem? hr)
                  obtain ⟨_, d1, d3, dv⟩ := rq_cells hr hs
                  obtain ⟨n1, n3⟩ := FP.out _ (SatL.tail (SatL.tail hs))
                  obtain ⟨pb1, po1, rfl, _⟩ := n3.1.1.at zP
                  obtain ⟨k1, k2⟩ := RdPts.cell2 n3.1 hpk
                  obtain ⟨ka, kc, hkv, _, _⟩ := n3.1.2 _ (List.getElem_mem hlt)
                  have kv := n3.2 _ (List.getElem_mem hlt)
                  rw [hv, hd] at d3 dv
                  rw [hb] at d1
                  rw [hkv] at k2 kv
                  clear hv hd hb hkv n3
                  generalize ps[k].b = kb at *
                  generalize ps[k].d = kd at *
                  have v1 := fun m => RdB.conv (RdB.drewN dv m)
                  have v2 := fun m => RdB.conv (RdB.drewN kv m)
                  have Hs := hid hs
                  clear hs dv kv hr hpk
                  go_upto_region 55 with fail
                  go_quiet (fail)
                  go_wp2
                  go_roundw
                  case rel => exact ⟨k + 1, by omega, by go_num, (sat_drewN _).2 Hs.out⟩
                  case measure => simp [intOf]; omega
                · obtain rfl : k = ps.length := by omega
                  go_wp2
                  go_meet
                  exact SatL.swap (sat_ReqsL.2 ⟨rq, by rw [HR2.out, ← at_R _ hpp, HRs.out], hs⟩)
          by_cases p3 : p = 3
          · as_aux_lemma => -- K3
              have hPe := recErr_P (st := st) RB.out
              obtain ⟨T, hT⟩ : ∃ T, T = recTail 9 P := ⟨_, rfl⟩
              have hTl : T.length = P.length + 1 := by rw [hT, recTail_len]
              have hT5 : ∀ q ∈ T, q.2.length = 512 := by rw [hT]; exact recTail_512 hPe
              have hnT : n = (T.length + 15) / 16 := by
                rw [← Hrn.out, rqs_len HR2.out, p3, reqs_3, wreqs_len, hTl]; rfl
              have hreq : ∀ c, c < n → ∃ r, rq[c]? = some r ∧ r.b = st + ((1 + 16 * c : Nat) : Int) ∧ r.d = (wreq st T (16 * c)).d := by
                intro c hc
                obtain ⟨r, hr, _, hb, hd⟩ := rqs_nth (x := wreq st T (16 * c)) HR2.out (by rw [p3, reqs_3, hT]; refine wreqs_get ?_; rw [hnT, hTl] at hc; exact hc)
                refine ⟨r, hr, ?_, hd⟩
                rw [hb, hT]; exact wreq_b (by omega)
              rw [HR.out] at g7
              obtain ⟨xs, hxs, g8⟩ := sat_PutsL.1 (SatL.pull g7 2)
              have hxl : (recRows 9 P).length = xs.length := by rw [← hxs, List.length_map]
              have hxt : xs.length = T.length := by rw [← hxl, hTl]; show (inRow 1 P).length + 1 = _; rw [inRow_len]
              have f0 : SatL w6 (PutsR (.slice oa (recRows 9 P).length oc) xs :: pt w7.heap.size (.cells #[.int .i64 tP, .slice ea en ec] 29) :: SlB 5 (.slice ea en ec) (endB 9 P) :: PutsR (.slice ua ps.length uc) ps :: Sl 25 (.slice (some ⟨gb, go, none⟩) 1 gc) [.slice ua ps.length uc] :: old w :: ReqsR (.slice (some ⟨qb, qo, none⟩) n qc) rq :: [LogR pb ((oB st P).at p).wanted]) := by
                exact SatL.bring g8 [0, 4, 3, 5, 6, 7, 1, 2]
              obtain ⟨TL, hTL⟩ : ∃ TL : List HP, TL = (SlB 5 (.slice ea en ec) (endB 9 P) :: PutsR (.slice ua ps.length uc) ps :: Sl 25 (.slice (some ⟨gb, go, none⟩) 1 gc) [.slice ua ps.length uc] :: old w :: ReqsR (.slice (some ⟨qb, qo, none⟩) n qc) rq :: [LogR pb ((oB st P).at p).wanted]) := ⟨_, rfl⟩
              rw [← hTL] at f0
              have hxm : xs.length ≤ 1000000 := by omega
              have CT := hid (fun (e1 : Nat) (w' : World) (L : List HP) (tP : Int) (ea : Option Addr) (en ec : Nat) (h : SatL w' (pt e1 (.cells #[.int .i64 tP, .slice ea en ec] 29) :: L)) => (⟨SatL.cell h (i := 0) rfl, SatL.cell h (i := 1) rfl⟩ : w'.cell? ⟨e1, 0, none⟩ = some (.int .i64 tP) ∧ w'.cell? ⟨e1, 1, none⟩ = some (.slice ea en ec)))
              have c0 := CT.out _ _ _ _ _ _ _ (SatL.pull (sat_drew.2 f0) 1)
              have f1 := sat_drew.2 (emptyK f0)
              have f2 := SatL.bring (sat_drew.2 ((emptyK f0).allocN (n := w6.heap.size + 1) (.cells #[.int .i64 tP, .slice ea en ec] 29) (by simp))) [1, 2, 0]
              have f3 := SatL.bring (sat_drew.2 (emptyKN (n := w6.heap.size + 1) (by simp) (f0.allocN (n := w6.heap.size) (.cells #[.int .i64 tP, .slice ea en ec] 29) rfl))) [0, 2, 1]
              have x1 := CT.out _ _ _ _ _ _ _ (SatL.pull f1 2)
              have x2 := CT.out _ _ _ _ _ _ _ (SatL.pull f2 3)
              have x3 := CT.out _ _ _ _ _ _ _ (SatL.pull f3 3)
              have x4 := CT.out _ _ _ _ _ _ _ (SatL.pull (sat_drew.2 (f0.alloc (.cells #[.int .i64 tP, .slice ea en ec] 29))) 2)
              have y1 : ((p : Int) == 1) = false := by rw [p3]; rfl
              have y3 : ((p : Int) == 3) = true := by rw [p3]; rfl
              have HTL := hid hTL
              have Hxs := hid hxs
              have Hxl := hid hxl
              have Hxt := hid hxt
              have HT := hid hT
              have HTl := hid hTl
              have HT5 := hid hT5
              have HnT := hid hnT
              have Hreq := hid hreq
              clear g7 g8 hTL hxs hxl hxt hT hTl hT5 hnT hreq p3 p1 p5 p7 f0
              have b1 : True := trivial
              go_upto_region 32 with fail
              go_cut [16] from 141 to 146 (fun v wr => SatL wr (SlK 29 2 v (xs.length + 1) (pcells (xs ++ [⟨tP, .slice ea en ec, endB 9 P⟩])) :: PutsR (.slice oa (recRows 9 P).length oc) xs :: pt w7.heap.size (.cells #[.int .i64 tP, .slice ea en ec] 29) :: TL))
              case first =>
                go_region_held3 (fun w' => w'.cell? ⟨w7.heap.size, 0, none⟩ = some (.int .i64 tP) ∧ w'.cell? ⟨w7.heap.size, 1, none⟩ = some (.slice ea en ec)) (first | (with_reducible exact c0) | (with_reducible exact m0) | (with_reducible exact x1) | (with_reducible exact x2) | (with_reducible exact x3) | (with_reducible exact x4) | (with_reducible exact x5) | go_keep) (first
                  | (have _t := b1; refine step_copyKeep rfl (.tmp 141) (.tmp 142) rfl rfl rfl f1 hxm ?_; intro v7 w8 g1; clear b1; have m0 := CT.out _ _ _ _ _ _ _ (SatL.pull g1 2); have x5 := CT.out _ _ _ _ _ _ _ (SatL.pull (g1.alloc (.cells #[.int .i64 tP, .slice ea en ec] 29)) 3); have b2 : True := trivial)
                  | (have _t := b1; refine step_copyKeep rfl (.tmp 141) (.tmp 142) rfl rfl rfl f2 hxm ?_; intro v7 w8 g1; clear b1; have m0 := CT.out _ _ _ _ _ _ _ (SatL.pull g1 3); have g1 := SatL.bring g1 [0, 2]; have b3 : True := trivial)
                  | (have _t := b1; refine step_copyKeep rfl (.tmp 141) (.tmp 142) rfl rfl rfl f3 hxm ?_; intro v7 w8 g1; clear b1; have m0 := CT.out _ _ _ _ _ _ _ (SatL.pull g1 3); have g1 := SatL.bring g1 [0, 2]; have b3 : True := trivial)
                  | (have _t := b2; refine step_cell_new (d := endB 9 P) rfl rfl (.tmp 143) (.tmp 145) rfl rfl rfl rfl g1 hxm ?_; intro v9 w9 g2; clear b2; have m0 := CT.out _ _ _ _ _ _ _ (SatL.pull g2 2))
                  | (have _t := b3; refine step_cell_cl (d := endB 9 P) rfl (.tmp 143) (.tmp 145) rfl rfl rfl rfl g1 hxm ?_; intro v9 w9 g2; clear b3; have m0 := CT.out _ _ _ _ _ _ _ (SatL.pull g2 2))
                  | fail "no")
                all_goals
                  go_wp2_with fail
                  go_meet
                  exact g2
              case rest =>
                clear f1 f2 f3 c0 x1 x2 x3 x4 b1 CT
                obtain ⟨Y, hY⟩ : ∃ Y : List Pt, Y = xs ++ [⟨tP, .slice ea en ec, endB 9 P⟩] := ⟨_, rfl⟩
                rw [← hY] at hcut
                have hYl : Y.length = xs.length + 1 := by rw [hY, List.length_append]; rfl
                have fY : ∀ w', SatL w' (SlK 29 2 u16 (xs.length + 1) (pcells Y) :: PutsR (.slice oa (recRows 9 P).length oc) xs :: pt w7.heap.size (.cells #[.int .i64 tP, .slice ea en ec] 29) :: TL) → RdPD u16 Y w' := by
                  intro w' h
                  rw [HTL.out] at h
                  have hs1 : SatL w' (SlB 5 (.slice ea en ec) (endB 9 P) :: _) := SatL.pull h 3
                  have hs2 : SatL w' (PutsR (.slice oa (recRows 9 P).length oc) xs :: _) := SatL.pull h 1
                  refine ⟨⟨by rw [hYl]; exact SlK.rdk h, fun q hq => ?_⟩, fun q hq => ?_⟩
                  · rw [hY] at hq
                    rcases List.mem_append.1 hq with hq | hq
                    · exact PutsR.ptsl hs2 q hq
                    · rw [List.mem_singleton.1 hq]; exact SlB.valn hs1
                  · rw [hY] at hq
                    rcases List.mem_append.1 hq with hq | hq
                    · exact PutsR.rdb hs2 hq
                    · rw [List.mem_singleton.1 hq]; exact SlB.rd hs1
                have hYT : ∀ j q, T[j]? = some q → ∃ y, Y[1 + j]? = some y ∧ y.d = q.2 := by
                  intro j q hj
                  have e : pds Y = recAll 9 P := by
                    have hh : pds xs = recRows 9 P := Hxs.out
                    rw [hY, pds_snoc, hh, HtP.out]; rfl
                  have h1 : (pds Y)[1 + j]? = some q := by rw [e, ← List.getElem?_drop]; rw [HT.out] at hj; exact hj
                  rw [List.getElem?_map] at h1
                  obtain ⟨y, hy, rfl⟩ := Option.map_eq_some_iff.1 h1
                  exact ⟨y, hy, rfl⟩
                obtain ⟨ra, rc, rfl, r1, r2⟩ := (fY _ hcut).1.1.valn
                obtain ⟨rb, ro, rfl, _⟩ := (fY _ hcut).1.1.at (by omega)
                obtain ⟨RL, hRL⟩ : ∃ RL : List HP, RL = (SlK 29 2 (.slice (some ⟨rb, ro, none⟩) Y.length rc) (xs.length + 1) (pcells Y) :: PutsR (.slice oa (recRows 9 P).length oc) xs :: pt w7.heap.size (.cells #[.int .i64 tP, .slice ea en ec] 29) :: TL) := ⟨_, rfl⟩
                have FY := hid (show ∀ w', SatL w' RL → RdPD (.slice (some ⟨rb, ro, none⟩) Y.length rc) Y w' from fun w' h => fY w' (by rw [hRL] at h; exact h))
                have FR := hid (show ∀ w', SatL w' RL → SatL w' (ReqsR (.slice (some ⟨qb, qo, none⟩) n qc) rq :: LogR pb ((oB st P).at p).wanted :: R) from fun w' h => by
                  rw [hRL, HTL.out] at h
                  rw [HR.out]
                  have h1 : SatL w' (PutsR (.slice oa (recRows 9 P).length oc) xs :: _) := SatL.pull h 1
                  have h2 := sat_PutsL.2 ⟨xs, Hxs.out, h1⟩
                  exact (SatL.bring h2 [1, 7, 8, 0, 3, 2, 4, 5, 6]).tail)
                rw [← hRL] at hcut
                have HY := hid hYl
                have HYT := hid hYT
                clear hRL hY hYl hYT fY HTL
                have Hc := hid hcut
                clear hcut
                go_wp2
                go_loopw [15, 17] (fun av iv wr => ∃ c a : Nat, c ≤ n ∧ iv = .int .i64 c ∧ av = .int .i64 a ∧ a = 1 + min (16 * c) T.length ∧ SatL wr RL) (fun _ iv _ => n - (intOf iv).toNat)
                case atStart => exact ⟨0, 1, by omega, rfl, rfl, by omega, Hc.out⟩
                case round =>
                  obtain ⟨c, a, hcn, rfl, rfl, ha, hs⟩ := hrel
                  have hnT := HnT.out
                  have hTl := HTl.out
                  by_cases hlt : c < n
                  · have ha1 : a = 1 + 16 * c := by omega
                    obtain ⟨r, hr, hb, hd⟩ := Hreq.out c hlt
                    obtain ⟨cnt, hcnt⟩ : ∃ cnt, cnt = min 16 (T.length - 16 * c) := ⟨_, rfl⟩
                    have hdl : r.d.length = 512 * cnt := by rw [hd, wreq_len HT5.out, hcnt]
                    obtain ⟨da, dc, hv, v1, v2⟩ := rq_val (FR.out _ hs) (List.mem_of_getElem? hr)
                    obtain ⟨_, d1, d3, dv⟩ := rq_cells hr (FR.out _ hs)
                    have fD := fun (w' : World) (h : SatL w' RL) => (rq_cells hr (FR.out _ h)).2.2
                    rw [hb, ← ha1] at d1
                    simp only [hv] at d3 dv fD
                    have hpart : ∀ k, k < cnt → ∃ y, Y[a + k]? = some y ∧ (r.d.take (512 * k + 512)).drop (512 * k) = y.d ∧ y.d.length = 512 := by
                      intro k hk
                      have hj : T[16 * c + k]? = some (T[16 * c + k]'(by omega)) := List.getElem?_eq_getElem (by omega)
                      obtain ⟨y, hy, hyd⟩ := HYT.out _ _ hj
                      refine ⟨y, by rw [ha1, Nat.add_assoc]; exact hy, ?_, ?_⟩
                      · rw [hd, hyd]; exact wreq_at HT5.out (by omega) hj
                      · rw [hyd]; exact HT5.out _ (List.getElem_mem _)
                    obtain ⟨db, do_, rfl⟩ : ∃ db do_, da = some ⟨db, do_, none⟩ := by
                      obtain ⟨_, _, _, b, o, h1, _⟩ := dv.at (by omega)
                      exact ⟨b, o, h1⟩
                    generalize hgl : r.d.length = dl at *
                    have hb0 := Hst.out
                    have za : (a : Int) ≤ 100 := by omega
                    have za0 : (0 : Int) ≤ a := by omega
                    have zdl : ¬ (8192 : Int) < dl := by omega
                    have hltz : (c : Int) < n := by omega
                    have Hha := hid ha1
                    have Hcnt := hid hcnt
                    have Hdl := hid hdl
                    have FD := hid fD
                    have HP := hid hpart
                    have Hgl := hid hgl
                    have Ha := hid ha
                    clear hb hd hv ha1 hcnt fD hpart ha dv hr hdl hnT hTl hlt hcn
                    go_upto_region 36 with fail
                    go_cut [186] from 147 to 224 (fun v wx => v = .bool false ∧ wx = wr)
                    case first =>
                      by_cases hnx : c + 1 < n
                      · have h81 : (dl : Int) = 8192 := by have := Hcnt.out; have := Hdl.out; have := HnT.out; omega
                        have hnz : (c : Int) + 1 < n := by omega
                        clear hnx
                        go_wp2
                        go_meet
                        exact ⟨rfl, rfl⟩
                      · have hnz : ¬ (c : Int) + 1 < n := by omega
                        clear hnx
                        go_wp2
                        go_meet
                        exact ⟨rfl, rfl⟩
                    case rest =>
                      obtain ⟨rfl, rfl⟩ := hcut
                      have hdl := Hdl.out
                      have hq : (dl : Int) / 512 = cnt := by omega
                      clear d1 hdl
                      go_wp2
                      go_loopw [15, 18] (fun av kv wq => ∃ k b : Nat, k ≤ cnt ∧ kv = .int .i64 k ∧ av = .int .i64 b ∧ b = a + k ∧ SatL wq RL) (fun _ kv _ => cnt - (intOf kv).toNat)
                      case atStart => exact ⟨0, a, by omega, rfl, rfl, by omega, hs⟩
                      case round =>
                        clear d3 hs
                        obtain ⟨k, b, hkn, rfl, rfl, hbk, hs2⟩ := hrel
                        obtain ⟨d3, dv⟩ := FD.out _ hs2
                        by_cases hk : k < cnt
                        · obtain ⟨y, hy, hyd, hy5⟩ := HP.out k hk
                          rw [← hbk] at hy
                          have hrd := FY.out _ hs2
                          obtain ⟨_, c2⟩ := RdPts.cell2 hrd.1 hy
                          obtain ⟨ya, yc, hyv, _, _⟩ := hrd.1.2 _ (List.mem_of_getElem? hy)
                          have yv := hrd.2 _ (List.mem_of_getElem? hy)
                          rw [hyv, hy5] at c2 yv
                          have hby : b < Y.length := (List.getElem?_eq_some_iff.1 hy).1
                          have hdl := Hdl.out
                          have hcn := Hcnt.out
                          have hsub := dv.sub (i := 512 * k) (j := 512 * k + 512) (by omega) (by rw [Hgl.out]; omega)
                          rw [hyd] at hsub
                          obtain ⟨z1, hz1⟩ : ∃ z, z = 512 * k := ⟨_, rfl⟩
                          obtain ⟨z2, hz2⟩ : ∃ z, z = 512 * k + 512 := ⟨_, rfl⟩
                          rw [← hz2, ← hz1] at hsub
                          have u1 : IntKind.i64.wrap ((512 : Int) * (k : Int)) = (z1 : Int) := (IntWalk.i64_in _ (by omega)).trans (by omega)
                          have u2 : IntKind.i64.wrap ((z1 : Int) + 512) = (z2 : Int) := (IntWalk.i64_in _ (by omega)).trans (by omega)
                          have q1 : z1 ≤ z2 := by omega
                          have q2 : z2 ≤ dc := by omega
                          have q3 : z1 ≤ dc := by omega
                          have q4 : z2 ≤ dl := by omega
                          have q5 : (0 : Int) ≤ z1 := by omega
                          have q6 : (0 : Int) ≤ z2 := by omega
                          have q7 : (b : Int) < Y.length := by omega
                          have q8 : decide ((Y.length : Int) ≤ b) = false := decide_eq_false (by omega)
                          have q8a : decide (Y.length ≤ b) = false := decide_eq_false (by omega)
                          have q9 : (k : Int) < cnt := by omega
                          have q10 : ¬ dc = z1 := by omega
                          generalize y.d = yd at *
                          have v1 := fun m => RdB.conv (RdB.drewN hsub m)
                          have v2 := fun m => RdB.conv (RdB.drewN yv m)
                          have Hs := hid hs2
                          have Hbk := hid hbk
                          clear hs2 hbk hy hyd hy5 hrd hyv yv hdl hcn hsub hz1 hz2 dv hby hk
                          go_upto_region 41 with fail
                          go_quiet (fail)
                          go_wp2
                          go_roundw
                          case rel => exact ⟨k + 1, b + 1, by omega, by go_num, by go_num, by have := Hbk.out; omega, (sat_drewN _).2 Hs.out⟩
                          case measure => simp [intOf]; omega
                        · obtain rfl : k = cnt := by omega
                          have Hbk := hid hbk
                          clear hbk
                          go_wp2
                          go_roundw
                          case rel => exact ⟨c + 1, b, by omega, by go_num, rfl, by have := Hbk.out; have := Hcnt.out; have := Hha.out; have := HnT.out; omega, hs2⟩
                          case measure => simp [intOf]; omega
                  · obtain rfl : c = n := by omega
                    have haY : a = Y.length := by have := HY.out; have := Hxt.out; omega
                    subst haY
                    clear hnT hTl ha hcn hlt
                    go_wp2
                    go_meet
                    exact SatL.swap (sat_ReqsL.2 ⟨rq, by rw [HR2.out, ← at_R _ hpp, HRs.out], FR.out _ hs⟩)
          · as_aux_lemma => -- KE
              obtain ⟨r, hr, hk, _, _⟩ := rqs_one (x := ⟨4, 0, 0, []⟩) (by rw [HR2.out, reqs_else _ p1 p3 p5 p7])
              simp only at hk
              have hn1 : ((n : Int) == 1) = true := by
                have : rq.length = 1 := by rw [rqs_len HR2.out, reqs_else _ p1 p3 p5 p7]; rfl
                rw [← Hrn.out, this]; rfl
              have hnz : (n : Int) = 1 := by simpa using hn1
              clear hn1
              have b1 : ((p : Int) == 1) = false := by simp; omega
              have b3 : ((p : Int) == 3) = false := by simp; omega
              have b5 : ((p : Int) == 5) = false := by simp; omega
              have b7 : ((p : Int) == 7) = false := by simp; omega
              obtain ⟨d0, _, _, _⟩ := rq_cells hr g7
              rw [hk, Nat.zero_mul, Nat.add_zero] at d0
              have G7 := hid g7
              clear g7 hr hk p1 p3 p5 p7
              go_wp2
              go_meet
              exact SatL.swap (sat_ReqsL.2 ⟨rq, by rw [HR2.out, ← at_R _ hpp, HRs.out], G7.out⟩)
        case rest => -- KR
          as_aux_lemma =>
            rw [← part_zero _ hpp] at hcut
            obtain ⟨rq, hrq, hcut⟩ := sat_ReqsL.1 (SatL.swap hcut)
            have hrn : rq.length = n := by rw [Hn.out, ← HRs.out, ← hrq, List.length_map]
            have hcut' : SatL wc (LogR pb ((oB st P).part p 0) :: ReqsR (.slice qa n qc) rq :: R) := SatL.swap hcut
            clear HG6 hcut
            go_wp2
            go_loopw [20] (fun iv wr => ∃ k : Nat, k ≤ n ∧ iv = .int .i64 k ∧ SatL wr (LogR pb (if k < n then (oB st P).part p k else (oB st P).at (p + 1)) :: ReqsR (.slice qa n qc) rq :: R)) (fun iv _ => n - (intOf iv).toNat)
            case atStart => exact ⟨0, by omega, rfl, by rw [if_pos hqn]; exact hcut'⟩
            case round =>
              clear hcut'
              obtain ⟨k, hkn, rfl, hs⟩ := hrel
              by_cases hlt : k < n
              · rw [if_pos hlt] at hs
                have hltz : (k : Int) < n := by omega
                obtain ⟨rk, hrk⟩ : ∃ rk, rq[k]? = some rk := ⟨rq[k]'(by omega), List.getElem?_eq_getElem _⟩
                have hkd : p % 2 = 1 → rk.k = 1 := by
                  intro ho
                  have h1 : (⟨rk.k, rk.b, rk.n, rk.d⟩ : Rq) ∈ ((oB st P).at p).R := by
                    rw [← HRs.out, ← hrq]; exact List.mem_map_of_mem (f := fun r : Rp => (⟨r.k, r.b, r.n, r.d⟩ : Rq)) (List.mem_of_getElem? hrk)
                  rw [at_R _ hpp] at h1
                  exact reqs_kind ho h1
                obtain ⟨qb, qo, rfl, hq⟩ := (SlK.rdk (sat_ReqsR.1 (SatL.swap hs))).at (by omega)
                have ck := hq _ _ (rcells_get hrk).1
                have hph := phase_ok hs
                rw [part_phase _ _ hpp] at hph
                have hbad := fun (w' : World) (L : List HP) (h : SatL w' (LogR pb ((oB st P).part p k) :: L)) => did_bad RB.out hpp (i := k) (by rw [← Hn.out]; omega) h
                have hone := fun (w' : World) (L : List HP) (h : SatL w' (LogR pb ((oB st P).part p k) :: L)) => did_one RB.out hpp (i := k) (by rw [← Hn.out]; omega) h
                rw [← Hn.out] at hbad hone
                have Hrn := hid hrn
                have Hpp := hid hpp
                clear hrn hpp hrk hrq
                by_cases ho : p % 2 = 1
                · as_aux_lemma =>
                    have hk1 := hkd ho
                    rw [hk1] at ck
                    have hm : (p : Int) % 2 = 1 := by omega
                    clear ho hkd hk1
                    go_wp2_with (first
                      | (go_at_call 27; (with_reducible refine hph.mono ?_); rintro e w2 ⟨r, rfl, rfl, g1⟩; have hbad' := hbad _ _ g1; have t3 : True := trivial)
                      | (have _t := t3; go_at_call 29; (with_reducible refine hbad'.mono ?_); rintro e w3 ⟨r, rfl, rfl, g2⟩; clear t3; have hone' := hone _ _ g2; have t4 : True := trivial)
                      | (have _t := t4; go_at_call 29; (with_reducible refine hone'.mono ?_); rintro e w4 ⟨r, rfl, rfl, g3⟩; clear t4))
                    go_roundw
                    case rel => exact ⟨k + 1, by omega, by go_num, g3⟩
                    case measure => simp [intOf]; omega
                · as_aux_lemma =>
                    have hm : ¬ (p : Int) % 2 = 1 := by omega
                    clear ho hkd
                    go_wp2_with (first
                      | (go_at_call 27; (with_reducible refine hph.mono ?_); rintro e w2 ⟨r, rfl, rfl, g1⟩; have hbad' := hbad _ _ g1; have t3 : True := trivial)
                      | (have _t := t3; go_at_call 29; (with_reducible refine hbad'.mono ?_); rintro e w3 ⟨r, rfl, rfl, g2⟩; clear t3; have hone' := hone _ _ g2; have t4 : True := trivial)
                      | (have _t := t4; go_at_call 29; (with_reducible refine hone'.mono ?_); rintro e w4 ⟨r, rfl, rfl, g3⟩; clear t4))
                    go_roundw
                    case rel => exact ⟨k + 1, by omega, by go_num, g3⟩
                    case measure => simp [intOf]; omega
              · as_aux_lemma =>
                  rw [if_neg hlt] at hs
                  have hltz : ¬ (k : Int) < n := by omega
                  have hde := durable_ok hs
                  have e6 : ((((oB st P).at (p + 1)).durable : Int) == 1) = decide ((6 : Int) ≤ p) := by
                    unfold LogS.at
                    split
                    · show ((((if 7 ≤ p + 1 then 1 else 0 : Nat)) : Int) == 1) = _
                      by_cases h7 : 7 ≤ p + 1
                      · rw [if_pos h7, decide_eq_true (by omega)]; rfl
                      · rw [if_neg h7, decide_eq_false (by omega)]; rfl
                    · rw [decide_eq_true (by omega)]; rfl
                  generalize ((oB st P).at (p + 1)).durable = dv2 at *
                  have Hpp := hid hpp
                  clear hpp hrn hrq
                  go_wp2_with (first
                    | (go_at_call 31; (with_reducible refine hde.mono ?_); rintro e w2 ⟨r, rfl, rfl, g1⟩))
                  go_roundw
                  case rel => exact ⟨p + 1, by omega, by omega, by go_num, (SatL.swap g1).tail⟩
                  case measure => simp [intOf]; omega
      · as_aux_lemma => -- K9
          have hpz : ¬ (p : Int) ≤ 8 := by omega
          have hp : p = 9 := by omega
          rw [hp] at hs
          obtain ⟨n1, n3⟩ := FP.out _ (SatL.tail hs)
          have gp : ps[0]? = some ps[0] := List.getElem?_eq_getElem zP
          obtain ⟨pb1, po1, rfl, _⟩ := n3.1.1.at zP
          have kp := (RdPts.cell2 n3.1 gp).1
          rw [Nat.zero_mul, Nat.add_zero] at kp
          have zPi : (0 : Int) < ps.length := by omega
          have hf1 := find_ok (b := ps[0].b) hs
          rw [show ((oB st P).at 9).find ps[0].b = none from rfl] at hf1
          simp only [Option.isSome_none, Option.getD_none] at hf1
          have hph := fun (w' : World) (h : SatL w' (LogR pb ((oB st P).at 9) :: R)) => phase_ok h
          simp only [show ((oB st P).at 9).phase = 0 from rfl, show ((0 : Nat) : Int) = 0 from rfl] at hph
          have hop := fun (w' : World) (h : SatL w' (LogR pb ((oB st P).at 9) :: R)) => open_ok h
          simp only [show ((oB st P).at 9).L.length = 0 from rfl, show ((0 : Nat) : Int) = 0 from rfl] at hop
          generalize ps[0].b = kb at *
          clear gp hp
          go_wp2_with (first
            | (go_at_call 28; (with_reducible refine hf1.mono ?_); rintro e w2 ⟨r, rfl, fv, rfl, g1⟩; have g2 := SatL.tail g1; have hph' := hph _ g2)
            | (go_at_call 27; (with_reducible refine hph'.mono ?_); rintro e w3 ⟨r, rfl, rfl, g3⟩; have hop' := hop _ g3)
            | (go_at_call 25; (with_reducible refine hop'.mono ?_); rintro e w4 ⟨r, rfl, rfl, g5⟩))
          go_ret
          exact ⟨_, rfl, rfl, FO.out _ g5.tail⟩
end Go.Proofs.Ytjjnadlklfegcaa
