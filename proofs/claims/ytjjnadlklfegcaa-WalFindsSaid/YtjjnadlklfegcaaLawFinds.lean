/- WalFinds: for every input it returns true and writes nothing that was there. No condition. -/
import Derived.Test.YtjjnadlklfegcaaLawRecs
import Derived.Test.YtjjnadlklfegcaaCopyPuts
import Derived.Test.YtjjnadlklfegcaaLogRd
import Derived.Test.YtjjnadlklfegcaaWalEnt7
import Derived.Test.YtjjnadlklfegcaaWalEnt3
import Derived.Test.YtjjnadlklfegcaaWalReq
namespace Go.Proofs.Ytjjnadlklfegcaa
set_option linter.unusedVariables false
set_option linter.unusedSimpArgs false
open Go.RowKit

def withinI (a n : Int) : Int := if a.tmod n < 0 then a.tmod n + n else a.tmod n
theorem within_bd (a n : Int) (hn : 0 < n) : 0 ≤ withinI a n ∧ withinI a n < n := by
  unfold withinI
  have h1 := Int.tmod_lt_of_pos a hn
  have h2 : -n < a.tmod n := by
    have := Int.lt_tmod_of_pos a hn
    omega
  split <;> omega
theorem within_ok (a n : Int) (hn : 0 < n ∧ n ≤ 1000000) (w : World) : Calls Try.prog 21 #[.int .i64 a, .int .i64 n] w fun e w' => e = .returned (.int .i64 (withinI a n)) ∧ w = w' := by
  have h1 := Int.tmod_lt_of_pos a hn.1
  have h2 : -n < a.tmod n := by
    have := Int.lt_tmod_of_pos a hn.1
    omega
  have hz : (n == 0) = false := by simp; omega
  by_cases hneg : a.tmod n < 0
  · have Hq := hid (show withinI a n = a.tmod n + n by simp [withinI, hneg])
    go_enter Try.func21, Try.ntmps21
    go_wp2
    go_ret
    exact ⟨by rw [Hq.out]; rfl, rfl⟩
  · have Hq := hid (show withinI a n = a.tmod n by simp [withinI, hneg])
    go_enter Try.func21, Try.ntmps21
    go_wp2
    go_ret
    exact ⟨by rw [Hq.out]; rfl, rfl⟩
/-- where a block of a statement goes -/
def at30 (a : Int) : Nat := (withinI a 30).toNat
theorem at30_lt (a : Int) : at30 a < 30 := by have := within_bd a 30 (by omega); unfold at30; omega
theorem at30_ok (a : Int) (w : World) : Calls Try.prog 21 #[.int .i64 a, .int .i64 30] w fun e w' => e = .returned (.int .i64 (at30 a : Nat)) ∧ w = w' := by
  have := within_ok a 30 (by omega) w
  have hb := within_bd a 30 (by omega)
  rw [show ((at30 a : Nat) : Int) = withinI a 30 from Int.toNat_of_nonneg hb.1]
  exact this
/-- a group out of the first blocks of a row -/
def grpTo (A : Nat → Int) (B : Nat → Nat) : Nat → List PD
  | 0 => []
  | k + 1 => if (((70 + at30 (A k) : Nat) : Int)) ∈ (grpTo A B k).map (·.1) then grpTo A B k else grpTo A B k ++ [(((70 + at30 (A k) : Nat) : Int), putB 512 (B k))]
def GrpOk (g : List PD) : Prop := (g.map (·.1)).Nodup ∧ ∀ p ∈ g, 70 ≤ p.1 ∧ p.1 < 100 ∧ ∃ b, p.2 = putB 512 b
theorem grpTo_ok (A : Nat → Int) (B : Nat → Nat) : ∀ k, GrpOk (grpTo A B k)
  | 0 => ⟨by simp [grpTo], by simp [grpTo]⟩
  | k + 1 => by
    have ih := grpTo_ok A B k
    unfold grpTo
    split
    · exact ih
    · rename_i hn
      refine ⟨?_, fun p hp => ?_⟩
      · rw [List.map_append, List.nodup_append]
        refine ⟨ih.1, by simp, ?_⟩
        intro x hx y hy
        simp only [List.map_cons, List.map_nil, List.mem_singleton] at hy
        subst hy
        intro e
        exact hn (e ▸ hx)
      · rcases List.mem_append.1 hp with hp | hp
        · exact ih.2 p hp
        · rw [List.mem_singleton.1 hp]
          have := at30_lt (A k)
          exact ⟨by simp only; omega, by simp only; omega, B k, by dsimp only⟩
theorem grpTo_len (A : Nat → Int) (B : Nat → Nat) : ∀ k, (grpTo A B k).length ≤ k
  | 0 => by simp [grpTo]
  | k + 1 => by
    have ih := grpTo_len A B k
    unfold grpTo
    split
    · omega
    · simp; omega
def seenL (g : List PD) : List Value := (List.range 30).map fun j => Value.bool (decide (((70 + j : Nat) : Int) ∈ g.map (·.1)))
theorem seenL_len (g : List PD) : (seenL g).length = 30 := by simp [seenL]
theorem seenL_nil : List.replicate 30 (Value.bool false) = seenL [] := by
  unfold seenL
  rw [List.map_congr_left (g := fun _ => Value.bool false) (fun j _ => by simp), List.map_const', List.length_range]
theorem seenL_get {g : List PD} {j : Nat} (h : j < 30) : (seenL g)[j]? = some (.bool (decide (((70 + j : Nat) : Int) ∈ g.map (·.1)))) := by simp [seenL, h]
theorem seenL_set {g : List PD} {j : Nat} {d : List UInt8} (h : j < 30) : (seenL g).set j (.bool true) = seenL (g ++ [(((70 + j : Nat) : Int), d)]) := by
  apply List.ext_getElem?
  intro q
  rw [List.getElem?_set]
  by_cases hq : q < 30
  · rw [seenL_get hq, seenL_get hq]
    by_cases hqj : j = q
    · subst hqj; rw [if_pos rfl, if_pos (by rw [seenL_len]; exact hq)]; simp
    · rw [if_neg hqj]
      congr 2
      have : ((70 + q : Nat) : Int) ≠ ((70 + j : Nat) : Int) := by omega
      simp [this]
      omega
  · rw [List.getElem?_eq_none (by rw [seenL_len]; omega), List.getElem?_eq_none (by rw [seenL_len]; omega)]
    split
    · rw [if_neg (by rw [seenL_len]; omega)]
    · rfl
def grpsTo (n : Nat → Nat) (A : Nat → Nat → Int) (B : Nat → Nat → Nat) : Nat → List (List PD)
  | 0 => []
  | i + 1 => if grpTo (A i) (B i) (min (n i) 30) = [] then grpsTo n A B i else grpsTo n A B i ++ [grpTo (A i) (B i) (min (n i) 30)]

/-- a row of groups -/
def GrpsR (v : Value) (gs : List (Value × List Pt)) : HP := sep [Sl 25 v (gs.map (·.1)), big (fun g : Value × List Pt => PutsR g.1 g.2) gs]
def GrpsL (v : Value) (l : List (List PD)) : HP := ex fun gs => sep [pur (gs.map (fun g => pds g.2) = l), GrpsR v gs]
section
variable {w : World} {L : List HP}
theorem sat_GrpsR {v : Value} {gs : List (Value × List Pt)} : SatL w (GrpsR v gs :: L) ↔ SatL w (Sl 25 v (gs.map (·.1)) :: big (fun g : Value × List Pt => PutsR g.1 g.2) gs :: L) := by
  simp only [GrpsR, sat_sep, List.cons_append, List.nil_append]
theorem sat_GrpsL {v : Value} {l : List (List PD)} : SatL w (GrpsL v l :: L) ↔ ∃ gs, gs.map (fun g => pds g.2) = l ∧ SatL w (GrpsR v gs :: L) := by
  simp only [GrpsL, sat_ex, sat_sep, List.cons_append, List.nil_append, sat_pur]
theorem elem_puts : ElemOk Try.prog 45 25 1 24 [Value.slice none 0 0] := .of (z := .slice none 0 0) (by kernel_rfl) (by kernel_rfl) rfl rfl (by decide) (by simp [Value.oneCell'])
theorem elem_bool8 : ElemOk Try.prog 44 4 1 1 [Value.bool false] := .of (z := .bool false) (by kernel_rfl) (by kernel_rfl) rfl rfl (by decide) (by simp [Value.oneCell'])
theorem GrpsR.snoc {v' u : Value} {gs : List (Value × List Pt)} {ps : List Pt} (h : SatL w (Sl 25 v' (gs.map (·.1) ++ [u]) :: PutsR u ps :: big (fun g : Value × List Pt => PutsR g.1 g.2) gs :: L)) : SatL w (GrpsR v' (gs ++ [(u, ps)]) :: L) := by
  rw [sat_GrpsR, List.map_append]
  have h2 : SatL w (PutsR u ps :: big (fun g : Value × List Pt => PutsR g.1 g.2) (gs ++ []) :: Sl 25 v' (gs.map (·.1) ++ [u]) :: L) := by
    rw [List.append_nil]; exact h.bring [1, 2, 0]
  exact (big_mid (f := fun g : Value × List Pt => PutsR g.1 g.2) (x := (u, ps)).2 h2).swap
theorem grpsTo_len (n : Nat → Nat) (A : Nat → Nat → Int) (B : Nat → Nat → Nat) : ∀ i, (grpsTo n A B i).length ≤ i
  | 0 => by simp [grpsTo]
  | i + 1 => by
    have ih := grpsTo_len n A B i
    unfold grpsTo
    split
    · omega
    · simp; omega
abbrev BlkRows (a : Option Addr) (m : Nat) (aa : Nat → Option Addr) (nn cc : Nat → Nat) (A S : Nat → Nat → Int) (B : Nat → Nat → Nat) (w : World) : Prop :=
  IsRow w 1 a m (fun i => [.slice (aa i) (nn i) (cc i)]) ∧ ∀ i, i < m → BlkRow (aa i) (nn i) (A i) (S i) (B i) w
theorem grpTo_in {A : Nat → Int} {B : Nat → Nat} {k : Nat} (h : (((70 + at30 (A k) : Nat) : Int)) ∈ (grpTo A B k).map (·.1)) : grpTo A B (k + 1) = grpTo A B k := by
  rw [grpTo, if_pos h]
theorem grpTo_no {A : Nat → Int} {B : Nat → Nat} {k : Nat} (h : ¬ (((70 + at30 (A k) : Nat) : Int)) ∈ (grpTo A B k).map (·.1)) : grpTo A B (k + 1) = grpTo A B k ++ [(((70 + at30 (A k) : Nat) : Int), putB 512 (B k))] := by
  rw [grpTo, if_neg h]
set_option maxRecDepth 100000 in
set_option maxHeartbeats 16000000 in
theorem groups_ok {a : Option Addr} {m c : Nat} {aa : Nat → Option Addr} {nn cc : Nat → Nat} {A S : Nat → Nat → Int} {B : Nat → Nat → Nat} (hB : ∀ i k, B i k < 256) (h : SatL w L) (g : Gives L (BlkRows a m aa nn cc A S B)) :
    Calls Try.prog 19 #[.slice a m c] w (Ret fun r w' => SatL w' (GrpsL r (grpsTo nn A B (min m 5)) :: L)) := by
  go_enter Try.func19, Try.ntmps19
  go_wp2
  have h0 : SatL w (GrpsR (.slice none 0 0) [] :: L) := sat_GrpsR.2 (SlK_nil ((big_nil (f := fun g : Value × List Pt => PutsR g.1 g.2)).2 h))
  go_loopw [3, 4] (fun ov i wr => ∃ (j : Nat) (gs : List (Value × List Pt)), j ≤ m ∧ j ≤ 5 ∧ i = .int .i64 j ∧ gs.map (fun g => pds g.2) = grpsTo nn A B j ∧ SatL wr (GrpsR ov gs :: L)) (fun _ i _ => 5 - (intOf i).toNat)
  case atStart => exact ⟨0, [], by omega, by omega, rfl, rfl, h0⟩
  case round =>
    clear h0 h
    obtain ⟨i, gs, him, hi5, rfl, hgs, hs⟩ := hrel
    by_cases hgo : (i : Int) < m ∧ (i : Int) < 5
    · obtain ⟨hgo1, hgo2⟩ := hgo
      obtain ⟨b, o, rfl, _⟩ := (g wr hs.tail).1.2 (by omega)
      have hcell : ∀ (w' : World), SatL w' L → w'.cell? ⟨b, o + i, none⟩ = some (.slice (aa i) (nn i) (cc i)) := by
        intro w' h'
        obtain ⟨b', o', hbo, hc⟩ := (g w' h').1.2 (by omega)
        cases hbo
        have := (hc i (by omega)).2 0 _ rfl
        rw [Nat.mul_one, Nat.add_zero] at this
        exact this
      have hrow := fun (w' : World) (h' : SatL w' L) => (g w' h').2 i (by omega)
      have hBi := hB i
      have Hsn := hid (show grpsTo nn A B (i + 1) = if grpTo (A i) (B i) (min (nn i) 30) = [] then grpsTo nn A B i else grpsTo nn A B i ++ [grpTo (A i) (B i) (min (nn i) 30)] from rfl)
      generalize aa i = ai at *
      generalize nn i = ni at *
      generalize cc i = ci at *
      generalize A i = Ai at *
      generalize S i = Si at *
      generalize B i = Bi at *
      have Hz := hid (show List.replicate 30 (Value.bool false) = seenL (grpTo Ai Bi 0) from seenL_nil)
      have Hgs := hid hgs
      have Hg := hid g
      clear hgs g hB
      go_wp2_with (refine wpList_make_sl rfl (.const (.int .i64 30)) (.const (.int .i64 30)) rfl elem_bool8 30 rfl rfl hs (by omega) (by omega) ?_; intro w5 hs5; rw [Hz.out] at hs5)
      generalize wr.heap.size = sb at *
      have hs6 : SatL w5 (PutsR (.slice none 0 0) [] :: Sl 4 (.slice (some ⟨sb, 0, none⟩) 30 30) (seenL (grpTo Ai Bi 0)) :: GrpsR u3 gs :: L) := sat_PutsR.2 (SlK_nil ((big_nil (f := fun p : Pt => SlB 5 p.v p.d)).2 hs5))
      clear hs5 hs
      go_loopw [5, 7] (fun gv kv wr => ∃ (k : Nat) (ps : List Pt), k ≤ ni ∧ k ≤ 30 ∧ kv = .int .i64 k ∧ pds ps = grpTo Ai Bi k ∧ SatL wr (PutsR gv ps :: Sl 4 (.slice (some ⟨sb, 0, none⟩) 30 30) (seenL (grpTo Ai Bi k)) :: GrpsR u3 gs :: L)) (fun _ kv _ => 30 - (intOf kv).toNat)
      case atStart => exact ⟨0, [], by omega, by omega, rfl, rfl, hs6⟩
      case round =>
        clear hs6 Hz
        obtain ⟨k, ps, hkn, hk30, rfl, hps, hs⟩ := hrel
        have hql : ps.length ≤ k := by rw [← pds_len, hps]; exact grpTo_len _ _ _
        by_cases hgk : (k : Int) < ni ∧ (k : Int) < 30
        · obtain ⟨hgk1, hgk2⟩ := hgk
          obtain ⟨bi, oi, rfl, hc⟩ := (hrow _ hs.tail.tail.tail).2 (by omega)
          have cw := hcell _ hs.tail.tail.tail
          have d0 := (hc k (by omega)).2 0 _ rfl
          rw [Nat.add_zero] at d0
          have hd2 : ∀ (w' : World), SatL w' L → w'.cell? ⟨bi, oi + k * 3 + 2, none⟩ = some (.int .u8 (Bi k : Int)) := by
            intro w' h'
            obtain ⟨b', o', hbo, hc'⟩ := (hrow w' h').2 (by omega)
            cases hbo
            exact (hc' k (by omega)).2 2 _ rfl
          have hat := at30_ok (Ai k)
          have hal := at30_lt (Ai k)
          obtain ⟨ga, gc, rfl, q1, q2⟩ := (PutsR.rdpts hs).1.valn
          have hin := grpTo_in (A := Ai) (B := Bi) (k := k)
          have hno := grpTo_no (A := Ai) (B := Bi) (k := k)
          have hbk := hBi k
          generalize at30 (Ai k) = j at *
          generalize Bi k = bk at *
          generalize Ai k = ak at *
          have cs := Sl.cell (SatL.pull hs 1 : SatL _ (Sl _ _ _ :: _)) (seenL_get (g := grpTo Ai Bi k) hal)
          rw [Nat.zero_add] at cs
          have fs := Sl.free (SatL.pull hs 1 : SatL _ (Sl _ _ _ :: _)) j
          by_cases hmem : (((70 + j : Nat) : Int)) ∈ (grpTo Ai Bi k).map (·.1)
          · rw [decide_eq_true hmem] at cs
            have Hin := hid (hin hmem)
            have Hps := hid hps
            clear hin hno hmem hps hc hd2 hcell hrow
            go_wp2_with (go_at_call 21; (with_reducible refine (hat _).mono ?_); rintro e w3 ⟨rfl, rfl⟩)
            go_roundw
            case rel => exact ⟨k + 1, ps, by omega, by omega, by go_num, by rw [Hin.out, Hps.out], by rw [Hin.out]; exact hs⟩
            case measure => simp [intOf]; omega
          · rw [decide_eq_false hmem] at cs
            have Hno := hid (hno hmem)
            have Hps := hid hps
            have hset := Sl.set (SatL.pull hs 1 : SatL _ (Sl _ _ _ :: _)) (i := j) (by rw [seenL_len]; exact hal) (.bool true)
            rw [seenL_set (d := putB 512 bk) hal, Nat.zero_add] at hset
            clear hin hno hmem hps hc hrow
            go_upto_region 13 with (go_at_call 21; (with_reducible refine (hat _).mono ?_); rintro e w3 ⟨rfl, rfl⟩)
            generalize wr.setCell ⟨sb, j, none⟩ (.bool true) = wq at *
            have cw2 := hcell _ hset.tail.tail.tail
            have d2 := hd2 _ hset.tail.tail.tail
            have hpu := put_ok (at_ := ((70 + j : Nat) : Int)) (sz := 0) hbk hset
            rw [show putN 0 = 512 from rfl] at hpu
            have e1 : IntKind.i64.wrap ((70 : Int) + (j : Int)) = ((70 + j : Nat) : Int) := (IntWalk.i64_in _ (by omega)).trans (by omega)
            have b2 : (ps.length + 1) * 32 ≤ 140737488355328 := by omega
            have b9 : 0 < 32 := by omega
            generalize 70 + j = j7 at *
            clear cw d0 cs fs hcell hd2 hat hs
            go_wp2_with (first
              | (go_at_call 24; (with_reducible refine hpu.mono ?_); rintro e w3 ⟨v, rfl, pa, pc, rfl, q3, q4, h3⟩; have h5 := sat_PutsR.1 (SatL.pull h3 2 : SatL w3 (PutsR _ _ :: _)))
              | (at_builtin; refine wpList_pushK_sl rfl rfl (.tmp 49) (.tmp 62) rfl elem_put b9 rfl h5 rfl rfl (by simp [Value.oneCell']) b2 ?_; intro v9 w9 h10))
            go_roundw
            case rel =>
              have h14 := PutsL.snoc (ps := ps) (b := (j7 : Int)) (d := putB 512 bk) h10
              exact ⟨k + 1, ps ++ [(⟨(j7 : Int), .slice pa 512 pc, putB 512 bk⟩ : Pt)], by omega, by omega, by go_num, by rw [Hno.out, pds_snoc, Hps.out], by rw [Hno.out]; exact h14⟩
            case measure => simp [intOf]; omega
        · have hke : k = min ni 30 := by omega
          have hgk3 : ¬ (k : Int) < ni ∨ ((k : Int) < ni ∧ ¬ (k : Int) < 30) := by omega
          obtain ⟨ga, gc, rfl, q1, q2⟩ := (PutsR.rdpts hs).1.valn
          have cw := hcell _ hs.tail.tail.tail
          have hG := sat_GrpsR.1 (SatL.pull hs 2 : SatL wr (GrpsR _ _ :: _))
          have hgl : gs.length ≤ 5 := by
            have h1 := grpsTo_len nn A B i
            rw [← Hgs.out, List.length_map] at h1
            omega
          obtain ⟨oa, oc, rfl, q3, q4⟩ := Sl.valn hG (m := gs.length) (by rw [List.length_map])
          rw [← hke] at Hsn
          have hbb : ((gs.map (·.1)).length + 1) * 24 ≤ 140737488355328 := by rw [List.length_map]; omega
          have b9 : 0 < 24 := by omega
          have Hke := hid hke
          clear hke hgk hcell hrow
          by_cases hp0 : ps.length = 0
          · have he := hid (show grpsTo nn A B (i + 1) = grpsTo nn A B i by
              rw [Hsn.out, if_pos]
              rw [← hps]
              exact List.eq_nil_of_length_eq_zero (by rw [pds_len]; exact hp0))
            rw [hp0] at hs ⊢
            clear hps hp0
            rcases hgk3 with hgk | ⟨hgk1, hgk⟩
            all_goals
              go_wp2_with fail
              go_roundw
              case rel => exact ⟨i + 1, gs, by omega, by omega, by go_num, by rw [he.out, Hgs.out], hs.tail.tail⟩
              case measure => simp [intOf]; omega
          · have he := hid (show grpsTo nn A B (i + 1) = grpsTo nn A B i ++ [grpTo Ai Bi k] by
              rw [Hsn.out, if_neg]
              intro e
              rw [e] at hps
              exact hp0 (by rw [← pds_len, hps]; rfl))
            have hp1 : (0 : Int) < ps.length := by omega
            have Hps := hid hps
            clear hps hp0
            rcases hgk3 with hgk | ⟨hgk1, hgk⟩
            all_goals
              go_wp2_with (at_builtin; refine wpList_push_sl rfl (.tmp 67) (.tmp 69) rfl elem_puts b9 rfl hG rfl rfl hbb ?_; intro v9 w9 h10)
              go_roundw
              case rel =>
                have h11 := GrpsR.snoc (SatL.tail (SatL.bring h10 [3, 0, 2, 1]))
                exact ⟨i + 1, gs ++ [(.slice ga ps.length gc, ps)], by omega, by omega, by go_num, by rw [he.out, List.map_append, Hgs.out]; show _ ++ [pds ps] = _; rw [Hps.out], h11⟩
              case measure => simp [intOf]; omega
    · have Hie := hid (show i = min m 5 by omega)
      have hgo3 : ¬ (i : Int) < m ∨ ((i : Int) < m ∧ ¬ (i : Int) < 5) := by omega
      clear hgo
      rcases hgo3 with hgo | ⟨hgo1, hgo⟩
      all_goals
        go_wp2_with fail
        go_ret
        exact Ret.mk (by rw [← Hie.out]; exact sat_GrpsL.2 ⟨gs, hgs, hs⟩)
end
end Go.Proofs.Ytjjnadlklfegcaa

namespace Go.Proofs.Ytjjnadlklfegcaa
set_option linter.unusedVariables false
set_option linter.unusedSimpArgs false
open Go.RowKit

theorem putB_word {c : Nat} : (putB 512 c).take 8 ≠ wordT := by
  intro h
  have h0 := congrArg (fun l : List UInt8 => l[0]?) h
  have h1 := congrArg (fun l : List UInt8 => l[1]?) h
  simp only [List.getElem?_take] at h0 h1
  rw [if_pos (by omega)] at h0 h1
  unfold putB at h0 h1
  rw [List.getElem?_map, List.getElem?_range (by omega)] at h0 h1
  have e0 : byteOf (c + 0 / 3) = 71 := by simpa [wordT] using h0
  have e1 : byteOf (c + 1 / 3) = 82 := by simpa [wordT] using h1
  rw [show (0 : Nat) / 3 = 0 from rfl] at e0
  rw [show (1 : Nat) / 3 = 0 from rfl, e0] at e1
  exact absurd e1 (by decide)
theorem zero_word : (List.replicate 512 (0 : UInt8)).take 8 ≠ wordT := by
  rw [List.take_replicate]
  decide
def TornOk (l : List PD) (s : Nat) (G : List PD) : Prop :=
  ∃ got, recov (logB l) = (s, got, 0) ∧ got.map (·.1) = G.map (·.1) ∧ crcN (headB s G ++ (G.map (·.2)).flatten) = crcN (headB s G ++ (got.map (·.2)).flatten)
theorem torn_core {s s' : Nat} {G G' l : List PD} (hs : s < 18446744073709551616) (hs' : s' < 18446744073709551616) (hne : s' ≠ s) (hG : recErr G = 0) (hG' : recErr G' = 0) (gG' : ∀ p ∈ G', ∃ b, p.2 = putB 512 b)
    (hl : ∀ q ∈ l, q ∈ recAll s G ∨ q ∈ recAll s' G') (h0 : rowAt (logB l) 0 = headB s G) (hg : recovGood (logB l)) : TornOk l s G := by
  obtain ⟨a1, a2, a3, a4⟩ := recErr_good hG
  have hok : LogOk l := fun q hq => (hl q hq).elim (recAll_ok hG q) (recAll_ok hG' q)
  have hb := logB_len l
  have hc : countOf (logB l) = G.length := by unfold countOf; rw [h0, head_count a2]
  have hsq : seqOf (logB l) = s := by unfold seqOf; rw [h0, head_seq hs]
  obtain ⟨g1, ⟨t1, t2, t3⟩, g3⟩ := hg
  have hrec : recov (logB l) = (s, gotOf (logB l), 0) := by
    unfold recov
    rw [if_neg (by omega), if_pos ⟨g1, ⟨t1, t2, t3⟩, g3⟩, hsq]
  have htl : tailOf (logB l) = rowAt (logB l) (1 + G.length) := by unfold tailOf; rw [hc]
  have hrow := rowAt_log (r := 1 + G.length) (by omega) l hok
  rw [htl, hrow] at t1 t2 t3
  have hend : rowAt (logB l) (1 + G.length) = endB s G := by
    rw [hrow]
    cases hla : lastAt l (1 + G.length) with
    | none =>
      rw [hla] at t1
      exact absurd t1 zero_word
    | some p =>
      rw [hla] at t1 t2
      simp only at t1 t2 ⊢
      obtain ⟨hm, hp1⟩ := lastAt_mem hla
      rcases hl p hm with hm | hm
      · rcases recAll_mem hm with rfl | ⟨i, q, hq, rfl⟩ | rfl
        · simp only at hp1; omega
        · have := (List.getElem?_eq_some_iff.1 hq).1
          simp only at hp1; omega
        · rfl
      · rcases recAll_mem hm with rfl | ⟨i, q, hq, rfl⟩ | rfl
        · simp only at hp1; omega
        · obtain ⟨c, hc⟩ := gG' q (List.mem_of_getElem? hq)
          simp only at t1
          rw [hc] at t1
          exact absurd t1 putB_word
        · simp only at t2
          unfold endB at t2
          rw [end_seq hs', hsq] at t2
          exact absurd t2 hne
  rw [← hrow, hend] at t3
  unfold endB at t3
  rw [end_sum (groupCrc_lt _ _), hc] at t3
  refine ⟨gotOf (logB l), hrec, ?_, ?_⟩
  · apply List.ext_getElem?
    intro i
    unfold gotOf gotTo
    rw [hc, List.map_map, List.getElem?_map, List.getElem?_map]
    by_cases hi : i < G.length
    · rw [List.getElem?_range hi, List.getElem?_eq_getElem hi]
      have := head_place (seq := s) (List.getElem?_eq_getElem hi) ⟨(a3 _ (List.getElem_mem hi)).1, (a3 _ (List.getElem_mem hi)).2.1⟩
      simp only [Option.map_some, Function.comp]
      rw [h0, this]
    · rw [List.getElem?_eq_none (by simpa using hi), List.getElem?_eq_none (by omega)]
      rfl
  · have htk := take_group (b := logB l) (n := G.length) (H := headB s G) (ds := (gotOf (logB l)).map (·.2)) (by omega) h0 (by
      intro i hi
      unfold gotOf gotTo
      rw [hc, List.map_map, List.getElem?_map, List.getElem?_range hi]
      rfl) (by unfold gotOf; rw [List.length_map, gotTo_len, hc])
    rw [htk] at t3
    exact t3
theorem torn_law {P Q l : List PD} (hP : recErr P = 0) (hQ : recErr Q = 0) (gP : ∀ p ∈ P, ∃ b, p.2 = putB 512 b) (gQ : ∀ p ∈ Q, ∃ b, p.2 = putB 512 b) (hl : ∀ q ∈ l, q ∈ recAll 1 P ∨ q ∈ recAll 2 Q) (hm : (0, headB 1 P) ∈ l) :
    recov (logB l) = (0, [], 2) ∨ TornOk l 1 P ∨ TornOk l 2 Q := by
  by_cases hg : recovGood (logB l)
  · right
    have hok : LogOk l := fun q hq => (hl q hq).elim (recAll_ok hP q) (recAll_ok hQ q)
    have hrow := rowAt_log (r := 0) (by omega) l hok
    cases hla : lastAt l 0 with
    | none =>
      exfalso
      unfold lastAt at hla
      rw [List.find?_eq_none] at hla
      exact hla _ (List.mem_reverse.2 hm) (by simp)
    | some p =>
      rw [hla] at hrow
      simp only at hrow
      obtain ⟨hpm, hp1⟩ := lastAt_mem hla
      have zero : ∀ {s : Nat} {G : List PD}, p ∈ recAll s G → p.2 = headB s G := by
        intro s G h
        rcases recAll_mem h with rfl | ⟨i, q, hq, rfl⟩ | rfl
        · rfl
        · simp only at hp1; omega
        · simp only at hp1; omega
      rcases hl p hpm with h | h
      · rw [zero h] at hrow
        exact .inl (torn_core (by omega) (by omega : 2 < 18446744073709551616) (by omega) hP hQ gQ hl hrow hg)
      · rw [zero h] at hrow
        exact .inr (torn_core (by omega) (by omega : 1 < 18446744073709551616) (by omega) hQ hP gP (fun q hq => (hl q hq).symm) hrow hg)
  · left
    unfold recov
    rw [if_neg (by rw [logB_len]; omega), if_neg hg]
theorem grp_sound {G : List PD} (h : GrpOk G) (h1 : 1 ≤ G.length) (h2 : G.length ≤ 64) : recErr G = 0 := by
  have hs : ∀ p ∈ G, soundE p = 0 := by
    intro p hp
    obtain ⟨b1, b2, c, hc⟩ := h.2 p hp
    unfold soundE
    rw [if_neg (by omega), if_neg (by rw [hc, putB_len]; simp)]
  have key : ∀ (rest seen : List PD), (∀ p ∈ rest, soundE p = 0) → ((seen ++ rest).map (·.1)).Nodup → recScan seen rest = 0 := by
    intro rest
    induction rest with
    | nil => intro seen _ _; rfl
    | cons p rest ih =>
      intro seen h3 h4
      unfold recScan
      rw [h3 p (by simp)]
      have hn : ¬ p.1 ∈ seen.map (·.1) := by
        intro hm
        rw [List.map_append, List.map_cons, List.nodup_append] at h4
        exact h4.2.2 _ hm _ (by simp) rfl
      simp only [ne_eq, not_true_eq_false, if_false]
      rw [if_neg hn]
      exact ih (seen ++ [p]) (fun q hq => h3 q (List.mem_cons_of_mem _ hq)) (by rw [List.append_assoc]; exact h4)
  unfold recErr
  rw [if_neg (by intro e; rw [e] at h1; simp at h1), if_neg (by omega)]
  exact key G [] hs (by rw [List.nil_append]; exact h.1)
end Go.Proofs.Ytjjnadlklfegcaa

namespace Go.Proofs.Ytjjnadlklfegcaa
set_option linter.unusedVariables false
set_option linter.unusedSimpArgs false
open Go.RowKit

section
variable {w : World} {L : List HP}
/-- the group that a row of blocks makes -/
def grpOf (n : Nat) (A : Nat → Int) (B : Nat → Nat) : List PD := grpTo A B (min n 30)
theorem grpOf_ok (n : Nat) (A : Nat → Int) (B : Nat → Nat) : GrpOk (grpOf n A B) := grpTo_ok _ _ _
theorem grpOf_len (n : Nat) (A : Nat → Int) (B : Nat → Nat) : (grpOf n A B).length ≤ 30 := by
  have := grpTo_len A B (min n 30); unfold grpOf; omega
theorem gives_one {a : Option Addr} {n c nb T : Nat} {A S : Nat → Int} {B : Nat → Nat} (g : Gives L (BlkRow a n A S B)) :
    Gives (pt nb (.cells #[.slice a n c] T) :: L) (BlkRows (some ⟨nb, 0, none⟩) 1 (fun _ => a) (fun _ => n) (fun _ => c) (fun _ => A) (fun _ => S) (fun _ => B)) := by
  intro w' h
  refine ⟨⟨by omega, fun _ => ⟨nb, 0, rfl, fun i hi => ⟨rfl, fun j v hv => ?_⟩⟩⟩, fun i _ => g w' h.tail⟩
  obtain rfl : i = 0 := by omega
  cases j with
  | zero =>
    simp at hv
    subst hv
    exact SatL.cell h (i := 0) rfl
  | succ j => simp at hv
theorem group_yes {a : Option Addr} {n c T : Nat} {A S : Nat → Int} {B : Nat → Nat} (hB : ∀ k, B k < 256) (hG : grpOf n A B ≠ []) (h : SatL w L) (g : Gives L (BlkRow a n A S B)) :
    Calls Try.prog 19 #[.slice (some ⟨w.heap.size, 0, none⟩) 1 1] (w.alloc (.cells #[.slice a n c] T))
      (Ret fun r w' => ∃ gb go gc ua uc ps, r = .slice (some ⟨gb, go, none⟩) 1 gc ∧ pds ps = grpOf n A B ∧ SatL w' (Sl 25 (.slice (some ⟨gb, go, none⟩) 1 gc) [.slice ua ps.length uc] :: PutsR (.slice ua ps.length uc) ps :: L)) := by
  refine (groups_ok (fun _ k => hB k) (h.alloc (.cells #[.slice a n c] T)) (gives_one g)).mono ?_
  rintro e w' ⟨r, rfl, h1⟩
  obtain ⟨gs, hgs, h2⟩ := sat_GrpsL.1 h1
  rw [show min 1 5 = 0 + 1 from rfl, grpsTo, grpsTo, show grpTo A B (min n 30) = grpOf n A B from rfl, if_neg hG] at hgs
  match gs, hgs with
  | [(u, ps)], hgs =>
    have hps : pds ps = grpOf n A B := by simpa using hgs
    have h3 := sat_GrpsR.1 h2
    obtain ⟨ra, rc, rfl, _⟩ := Sl.valn h3 (m := 1) (by simp)
    obtain ⟨gb, go, rfl⟩ := Sl.addr h3 (by omega)
    have h4 : SatL w' (PutsR u ps :: big (fun g : Value × List Pt => PutsR g.1 g.2) [] :: _) := (big_cons (f := fun g : Value × List Pt => PutsR g.1 g.2) (x := (u, ps)) (xs := [])).1 (SatL.pull h3 1 : SatL w' (big (fun g : Value × List Pt => PutsR g.1 g.2) [(u, ps)] :: _))
    obtain ⟨ua, uc, rfl, _⟩ := (PutsR.rdpts h4).1.valn
    refine ⟨_, rfl, gb, go, rc, ua, uc, ps, rfl, hps, ?_⟩
    have h5 := (big_nil (f := fun g : Value × List Pt => PutsR g.1 g.2)).1 (SatL.pull h4 1 : SatL w' (big (fun g : Value × List Pt => PutsR g.1 g.2) [] :: _))
    exact SatL.tail (h5.bring [2, 1, 0])
  | [], hgs => simp at hgs
  | _ :: _ :: _, hgs => simp at hgs
theorem group_no {a : Option Addr} {n c T : Nat} {A S : Nat → Int} {B : Nat → Nat} (hB : ∀ k, B k < 256) (hG : grpOf n A B = []) (h : SatL w L) (g : Gives L (BlkRow a n A S B)) :
    Calls Try.prog 19 #[.slice (some ⟨w.heap.size, 0, none⟩) 1 1] (w.alloc (.cells #[.slice a n c] T))
      (Ret fun r w' => ∃ ga gc, r = .slice ga 0 gc ∧ SatL w' L) := by
  refine (groups_ok (fun _ k => hB k) (h.alloc (.cells #[.slice a n c] T)) (gives_one g)).mono ?_
  rintro e w' ⟨r, rfl, h1⟩
  obtain ⟨gs, hgs, h2⟩ := sat_GrpsL.1 h1
  rw [show min 1 5 = 0 + 1 from rfl, grpsTo, grpsTo, show grpTo A B (min n 30) = grpOf n A B from rfl, if_pos hG] at hgs
  have he : gs = [] := by simpa using hgs
  subst he
  have h3 := sat_GrpsR.1 h2
  obtain ⟨ra, rc, rfl, _⟩ := Sl.valn h3 (m := 0) (by simp)
  exact ⟨_, rfl, ra, rc, rfl, h3.tail.tail.tail⟩
/-- append([]api.Put{}, x...), x kept -/
theorem step_copyKeep {ops : Array Oper} {o : Oper} {a : Act} {K : Act → World → Prop} {Q : Exit → Act → World → Prop} {X : Prop} {nb : Nat} {v : Value} {ps : List Pt} (hgd : o.guard = none) (s x : Operand)
    (ho : o.op = .call { callee := .builtin .append, args := #[s, x], argTypes := #[25, 25] }) (hs : a.eval s = .slice (some ⟨nb, 0, none⟩) 0 0) (hy : a.eval x = v)
    (h : SatL w (SlK 29 2 (.slice (some ⟨nb, 0, none⟩) 0 0) 0 [] :: PutsR v ps :: L)) (hl : ps.length ≤ 1000000)
    (H : ∀ v' w', SatL w' (SlK 29 2 v' ps.length (pcells ps) :: PutsR v ps :: L) → K (a.put o.dst v') w') :
    if Region.wanted o (yielded ops a.tmps) = true then Oper.wp Try.prog o a w K Q else X := by
  have hp := sat_PutsR.1 h.swap
  refine step_append_sl hgd s x ho elem_put hs h hy (SrcOk.ofK elem_put.under hp) (pcells_one (PutsR.ptsl h.swap)) (by omega) (by unfold maxLen; omega) ?_
  intro v' w' h2 _
  rw [Nat.zero_add, List.nil_append] at h2
  exact H v' w' h2
theorem pcells_snoc1 (ps : List Pt) (b : Int) (u : Value) (d : List UInt8) : pcells (ps ++ [⟨b, u, d⟩]) = pcells ps ++ (#[.int .i64 b, u] : Array Value).toList := by simp [pcells]
theorem step_cell_new {ops : Array Oper} {o : Oper} {a : Act} {K : Act → World → Prop} {Q : Exit → Act → World → Prop} {X : Prop} {nb : Nat} {v u : Value} {ps : List Pt} {b : Int} {d : List UInt8} (hnb : nb = w.heap.size) (hgd : o.guard = none) (s x : Operand)
    (ho : o.op = .call { callee := .builtin .append, args := #[s, x], argTypes := #[25, 25] }) (hs : a.eval s = v) (hy : a.eval x = .slice (some ⟨nb, 0, none⟩) 1 1)
    (hu : u.oneCell' = true) (h : SatL w (SlK 29 2 v ps.length (pcells ps) :: L)) (hl : ps.length ≤ 1000000)
    (H : ∀ v' w', SatL w' (SlK 29 2 v' (ps.length + 1) (pcells (ps ++ [⟨b, u, d⟩])) :: L) → K (a.put o.dst v') w') :
    if Region.wanted o (yielded ops a.tmps) = true then Oper.wp Try.prog o a (w.alloc (.cells #[.int .i64 b, u] 29)) K Q else X := by
  refine step_pushK_sl hnb hgd s x ho elem_put (by omega) hs h hy rfl (by intro y hy; simp at hy; rcases hy with rfl | rfl <;> first | rfl | exact hu) (by omega) ?_
  intro v' w' h2
  exact H v' w' (by rw [pcells_snoc1]; exact h2)
theorem step_cell_cl {ops : Array Oper} {o : Oper} {a : Act} {K : Act → World → Prop} {Q : Exit → Act → World → Prop} {X : Prop} {nb : Nat} {v u : Value} {ps : List Pt} {b : Int} {d : List UInt8} (hgd : o.guard = none) (s x : Operand)
    (ho : o.op = .call { callee := .builtin .append, args := #[s, x], argTypes := #[25, 25] }) (hs : a.eval s = v) (hy : a.eval x = .slice (some ⟨nb, 0, none⟩) 1 1)
    (hu : u.oneCell' = true) (h : SatL w (SlK 29 2 v ps.length (pcells ps) :: pt nb (.cells #[.int .i64 b, u] 29) :: L)) (hl : ps.length ≤ 1000000)
    (H : ∀ v' w', SatL w' (SlK 29 2 v' (ps.length + 1) (pcells (ps ++ [⟨b, u, d⟩])) :: L) → K (a.put o.dst v') w') :
    if Region.wanted o (yielded ops a.tmps) = true then Oper.wp Try.prog o a w K Q else X := by
  refine step_append_sl hgd s x ho elem_put hs h hy (SrcOk.ofCl (n := 1) elem_put.under (SatL.pull h 1 : SatL w (pt _ _ :: _)) rfl 1) (by intro y hy; simp at hy; rcases hy with rfl | rfl <;> first | rfl | exact hu) (by omega) (by unfold maxLen; omega) ?_
  intro v' w' h2 _
  exact H v' w' (by rw [pcells_snoc1]; exact SatL.tail h2.swap)
theorem emptyK (h : SatL w L) : SatL (w.alloc (.cells #[] 29)) (SlK 29 2 (.slice (some ⟨w.heap.size, 0, none⟩) 0 0) 0 [] :: L) :=
  sat_SlK.2 (.inr ⟨w.heap.size, 0, 0, #[], ⟨rfl, Nat.le_refl _, by decide, rfl, by simp, rfl⟩, h.alloc _⟩)
theorem emptyKN {n : Nat} (hn : n = w.heap.size) (h : SatL w L) : SatL (w.alloc (.cells #[] 29)) (SlK 29 2 (.slice (some ⟨n, 0, none⟩) 0 0) 0 [] :: L) := by
  subst hn; exact emptyK h
end
end Go.Proofs.Ytjjnadlklfegcaa

namespace Go.Proofs.Ytjjnadlklfegcaa
set_option linter.unusedVariables false
set_option linter.unusedSimpArgs false
open Go.RowKit

theorem fit_sound {G : List PD} (hf : Fit G) (hn : (G.map (·.1)).Nodup) (h1 : G ≠ []) : recErr G = 0 := by
  have key : ∀ (rest seen : List PD), (∀ p ∈ rest, soundE p = 0) → ((seen ++ rest).map (·.1)).Nodup → recScan seen rest = 0 := by
    intro rest
    induction rest with
    | nil => intro seen _ _; rfl
    | cons p rest ih =>
      intro seen h3 h4
      unfold recScan
      rw [h3 p (by simp)]
      have hn : ¬ p.1 ∈ seen.map (·.1) := by
        intro hm
        rw [List.map_append, List.map_cons, List.nodup_append] at h4
        exact h4.2.2 _ hm _ (by simp) rfl
      simp only [ne_eq, not_true_eq_false, if_false]
      rw [if_neg hn]
      exact ih (seen ++ [p]) (fun q hq => h3 q (List.mem_cons_of_mem _ hq)) (by rw [List.append_assoc]; exact h4)
  unfold recErr
  rw [if_neg h1, if_neg (by have := hf.1; omega)]
  exact key G [] hf.2 (by simpa using hn)

section
variable {w : World} {L : List HP} {pb : Nat} {s : LogS}
theorem enter_ok {p : Nat} (hp : 1 ≤ p ∧ p ≤ 8) (hq : s.seq < 18446744073709551616) (hst : 0 ≤ s.start ∧ s.start ≤ 4611686018427387904) (hN : recErr s.N = 0) (h : SatL w (LogR pb s :: L)) :
    Calls Try.prog 58 #[.pointer (some ⟨pb, 0, none⟩), .int .i64 p] w (Ret fun r w' => SatL w' (LogR pb (s.enter p) :: L)) := by
  have hc : ((p = 2 ∨ p = 4 ∨ p = 6 ∨ p = 8) ∨ p = 1 ∨ p = 5) ∨ p = 7 ∨ p = 3 := by omega
  rcases hc with hc | hc | hc
  · exact enterA_ok hc hq hst hN h
  · exact enter7_ok hc hq hst hN h
  · exact enter3_ok hc hq hst hN h
theorem LogR.nodup (h : SatL w (LogR pb s :: L)) : (s.L.map (·.1)).Nodup ∧ Fit s.L := by
  obtain ⟨lv, m, nv, mv, rv, hf, h1⟩ := sat_LogR.1 h
  obtain ⟨es, hG, _⟩ := sat_GrpOf.1 (SatL.pull h1 2 : SatL w (GrpOf _ _ :: _))
  exact ⟨hG.1, hf.1⟩
/-- the log as Start hands it to the first phase -/
def LogS.begun (s : LogS) : LogS := { s with L := [], N := s.L, phase := 0, R := [], told := 0, don := 0, number := s.number + 1 }
def LogS.startS (s : LogS) : Int × LogS := if s.phase ≠ 0 then (8, s) else if s.L = [] then (2, s) else (0, s.begun.enter 1)
theorem start_busy (h : SatL w (LogR pb s :: L)) (h0 : s.phase ≠ 0) : Calls Try.prog 26 #[.pointer (some ⟨pb, 0, none⟩)] w (Ret fun r w' => r = .int .i64 8 ∧ SatL w' (LogR pb s :: L)) := by
  obtain ⟨lv, m, nv, mv, rv, hf, h1⟩ := sat_LogR.1 h
  have c4 : w.cell? ⟨pb, 4, none⟩ = some (.int .i64 s.phase) := h1.cell (i := 4) rfl
  have hz : ¬ (s.phase : Int) = 0 := by omega
  clear h1 h0 hf
  go_enter Try.func26, Try.ntmps26
  go_wp2
  go_ret
  exact Ret.mk ⟨rfl, h⟩
theorem start_empty (h : SatL w (LogR pb s :: L)) (h0 : s.phase = 0) (hL : s.L = []) : Calls Try.prog 26 #[.pointer (some ⟨pb, 0, none⟩)] w (Ret fun r w' => r = .int .i64 2 ∧ SatL w' (LogR pb s :: L)) := by
  obtain ⟨lv, m, nv, mv, rv, hf, h1⟩ := sat_LogR.1 h
  have hv := PutsL.valn (SatL.pull h1 1 : SatL w (PutsL _ _ :: _))
  rw [hL] at hv
  obtain ⟨a, c, rfl, q1, q2⟩ := hv
  have c0 : w.cell? ⟨pb, 0, none⟩ = some (.slice a 0 c) := h1.cell (i := 0) rfl
  have c4 : w.cell? ⟨pb, 4, none⟩ = some (.int .i64 s.phase) := h1.cell (i := 4) rfl
  rw [h0] at c4
  clear h1 hL h0 hf
  go_enter Try.func26, Try.ntmps26
  go_wp2
  go_ret
  exact Ret.mk ⟨rfl, h⟩
set_option maxRecDepth 100000 in
set_option maxHeartbeats 4000000 in
theorem start_go (h : SatL w (LogR pb s :: L)) (h0 : s.phase = 0) (hL : s.L ≠ []) (hq : s.seq < 18446744073709551616) (hst : 0 ≤ s.start ∧ s.start ≤ 4611686018427387904) (hnum : s.number ≤ 4611686018427387904) :
    Calls Try.prog 26 #[.pointer (some ⟨pb, 0, none⟩)] w (Ret fun r w' => r = .int .i64 0 ∧ SatL w' (LogR pb (s.begun.enter 1) :: L)) := by
  obtain ⟨hnd, hfl⟩ := LogR.nodup h
  have hrE := fit_sound hfl hnd hL
  obtain ⟨lv, m, nv, mv, rv, hf, h1⟩ := sat_LogR.1 h
  obtain ⟨a, c, rfl, q1, q2⟩ := PutsL.valn (SatL.pull h1 1 : SatL w (PutsL _ _ :: _))
  have hln : 0 < s.L.length := List.length_pos_iff.2 hL
  have hlz : ¬ (s.L.length : Int) = 0 := by omega
  have c0 : w.cell? ⟨pb, 0, none⟩ = some (.slice a s.L.length c) := h1.cell (i := 0) rfl
  have c1 : w.cell? ⟨pb, 1, none⟩ = some (.map (some m)) := h1.cell (i := 1) rfl
  have c2 : w.cell? ⟨pb, 2, none⟩ = some nv := h1.cell (i := 2) rfl
  have c3 : w.cell? ⟨pb, 3, none⟩ = some mv := h1.cell (i := 3) rfl
  have c4 : w.cell? ⟨pb, 4, none⟩ = some (.int .i64 s.phase) := h1.cell (i := 4) rfl
  rw [h0] at c4
  have c5 : w.cell? ⟨pb, 5, none⟩ = some rv := h1.cell (i := 5) rfl
  have c6 : w.cell? ⟨pb, 6, none⟩ = some (.int .i64 s.told) := h1.cell (i := 6) rfl
  have c7 : w.cell? ⟨pb, 7, none⟩ = some (.int .i64 s.don) := h1.cell (i := 7) rfl
  have f2 := h1.free 2
  have f3 := h1.free 3
  have f4 := h1.free 4
  have f5 := h1.free 5
  have f6 := h1.free 6
  have f7 := h1.free 7
  have h2 := (((((h1.set (i := 2) (.slice a s.L.length c)).set (i := 3) (.map (some m))).set (i := 4) (.int .i64 0)).set (i := 5) (.slice none 0 0)).set (i := 6) (.int .i64 0)).set (i := 7) (.int .i64 0)
  have e2 : (((((((logCells (.slice a s.L.length c) m nv mv rv s).setIfInBounds 2 (.slice a s.L.length c)).setIfInBounds 3 (.map (some m))).setIfInBounds 4 (.int .i64 0)).setIfInBounds 5 (.slice none 0 0)).setIfInBounds 6 (.int .i64 0)).setIfInBounds 7 (.int .i64 0)) =
    #[.slice a s.L.length c, .map (some m), .slice a s.L.length c, .map (some m), .int .i64 0, .slice none 0 0, .int .i64 0, .int .i64 0, .int .i64 s.start, .int .u64 s.seq, .int .i64 s.number, .int .i64 s.durable] := rfl
  rw [e2] at h2
  have hmm := @run_makeMap Try.prog
  have hnb : (s.number : Int) ≤ 4611686018427387904 := by omega
  clear h1 e2 h
  go_enter Try.func26, Try.ntmps26
  go_upto_region 6 with fail
  generalize (((((w.setCell ⟨pb, 2, none⟩ (.slice a s.L.length c)).setCell ⟨pb, 3, none⟩ (.map (some m))).setCell ⟨pb, 4, none⟩ (.int .i64 0)).setCell ⟨pb, 5, none⟩ (.slice none 0 0)).setCell ⟨pb, 6, none⟩ (.int .i64 0)).setCell ⟨pb, 7, none⟩ (.int .i64 0) = w1 at *
  clear c0 c1 c2 c3 c4 c5 c6 c7 f2 f3 f4 f5 f6 f7
  have d0 : w1.cell? ⟨pb, 0, none⟩ = some (.slice a s.L.length c) := h2.cell (i := 0) rfl
  have d1 : w1.cell? ⟨pb, 1, none⟩ = some (.map (some m)) := h2.cell (i := 1) rfl
  have d10 : w1.cell? ⟨pb, 10, none⟩ = some (.int .i64 s.number) := h2.cell (i := 10) rfl
  have g0 := h2.free 0
  have g1 := h2.free 1
  have g10 := h2.free 10
  have hne := h2.lt
  have h3 := (((h2.set (i := 0) (.slice none 0 0)).set (i := 1) (.map (some w1.heap.size))).set (i := 10) (.int .i64 (s.number + 1))).allocN (n := w1.heap.size) (.map #[] 0) (by simp)
  have h4 := MapI.made h3
  have h5 := sat_GrpOf.2 ⟨[], Grp.nil, h4⟩
  have h6 := sat_GrpN.2 (.inr ⟨m, rfl, (SatL.pull h5 3 : SatL _ (GrpOf m _ :: _))⟩)
  have h7 := ReqsL.nil (PutsL.nil h6)
  have h8 := (sat_LogR (s := s.begun)).2 ⟨.slice none 0 0, w1.heap.size, .slice a s.L.length c, .map (some m), .slice none 0 0, ⟨Fit.nil, hf.1⟩, h7.bring [4, 1, 3, 5, 2, 0]⟩
  have hent := enter_ok (s := s.begun) (p := 1) (by omega) hq hst hrE h8
  rw [show ((1 : Nat) : Int) = 1 from rfl] at hent
  clear h2 h3 h4 h5 h6 h7 h8
  go_wp2_with (go_at_call 58; (with_reducible refine hent.mono ?_); rintro e w2 ⟨r, rfl, h9⟩)
  go_ret
  exact Ret.mk ⟨rfl, SatL.to h9⟩
theorem start_ok (h : SatL w (LogR pb s :: L)) (hq : s.seq < 18446744073709551616) (hst : 0 ≤ s.start ∧ s.start ≤ 4611686018427387904) (hnum : s.number ≤ 4611686018427387904) :
    Calls Try.prog 26 #[.pointer (some ⟨pb, 0, none⟩)] w (Ret fun r w' => r = .int .i64 s.startS.1 ∧ SatL w' (LogR pb s.startS.2 :: L)) := by
  unfold LogS.startS
  by_cases h0 : s.phase ≠ 0
  · rw [if_pos h0]; exact start_busy h h0
  · have h00 : s.phase = 0 := by omega
    rw [if_neg h0]
    by_cases hL : s.L = []
    · rw [if_pos hL]; exact start_empty h h00 hL
    · rw [if_neg hL]; exact start_go h h00 hL hq hst hnum
end
end Go.Proofs.Ytjjnadlklfegcaa

namespace Go.Proofs.Ytjjnadlklfegcaa
set_option linter.unusedVariables false
set_option linter.unusedSimpArgs false
open Go.RowKit

def LogS.more (s : LogS) (k : Nat) : LogS := { s with don := s.don + k }
def LogS.through (s : LogS) : LogS := { s with N := [], phase := 0, R := [], told := 0, don := 0, seq := (s.seq + 1) % 18446744073709551616 }
def LogS.stays (s : LogS) : LogS := if s.phase = 6 then { s with durable := s.number - 1 } else s
def LogS.next (s : LogS) : LogS := if s.phase = 0 ∨ s.don < s.R.length then s else if s.phase = 8 then s.through else s.stays.enter (s.phase + 1)
def LogS.didS (s : LogS) (n : Int) : Int × LogS := if n < 0 ∨ (s.told : Int) - s.don < n then (1, s) else (0, (s.more n.toNat).next)
structure LogInv (s : LogS) : Prop where
  seq : s.seq < 18446744073709551616
  start : 0 ≤ s.start ∧ s.start ≤ 4611686018427387904
  num : 1 ≤ s.number ∧ s.number ≤ 4611686018427387904
  now : s.phase ≠ 0 → recErr s.N = 0
  ph : s.phase ≤ 8
  don : s.don ≤ s.told
  told : s.told ≤ s.R.length
  few : s.R.length ≤ 1000
  data : ∀ r ∈ s.R, r.d.length ≤ 1000000
section
variable {w : World} {L : List HP} {pb : Nat} {s : LogS}
set_option maxRecDepth 100000 in
set_option maxHeartbeats 4000000 in
theorem did_ok {n : Int} (ok : LogInv s) (hn : -9223372036854775808 ≤ n ∧ n ≤ 9223372036854775807) (h : SatL w (LogR pb s :: L)) :
    Calls Try.prog 29 #[.pointer (some ⟨pb, 0, none⟩), .int .i64 n] w (Ret fun r w' => r = .int .i64 (s.didS n).1 ∧ SatL w' (LogR pb (s.didS n).2 :: L)) := by
  obtain ⟨oseq, ostart, onum, onow, oph, odon, otold, ofew, odata⟩ := ok
  by_cases h0 : n < 0
  · have e : Hid (s.didS n = (1, s)) := hid (by unfold LogS.didS; rw [if_pos (.inl h0)])
    have hb0 : decide (n < 0) = true := by simpa using h0
    clear onow odata
    go_enter Try.func29, Try.ntmps29
    go_wp2
    go_quiet (fail)
    go_wp2
    go_ret
    rw [e.out]
    exact Ret.mk ⟨rfl, (sat_drewN _).2 h⟩
  · have hb0 : decide (n < 0) = false := by simpa using h0
    obtain ⟨lv, m, nv, mv, rv, hf, h1⟩ := sat_LogR.1 h
    have c6 : w.cell? ⟨pb, 6, none⟩ = some (.int .i64 s.told) := h1.cell (i := 6) rfl
    have c7 : w.cell? ⟨pb, 7, none⟩ = some (.int .i64 s.don) := h1.cell (i := 7) rfl
    have b1 : (s.told : Int) ≤ 1000 := by omega
    have b2 : (s.don : Int) ≤ 1000 := by omega
    have b3 : (0 : Int) ≤ s.told := by omega
    have b4 : (0 : Int) ≤ s.don := by omega
    have bw : IntKind.i64.wrap ((s.told : Int) - s.don) = (s.told : Int) - s.don := IntWalk.i64_in _ (by omega)
    by_cases h9 : (s.told : Int) - s.don < n
    · have e : Hid (s.didS n = (1, s)) := hid (by unfold LogS.didS; rw [if_pos (.inr h9)])
      have hb9 : decide ((s.told : Int) - s.don < n) = true := by simpa using h9
      clear h1 onow odata
      go_enter Try.func29, Try.ntmps29
      go_wp2
      go_quiet (fail)
      go_wp2
      go_ret
      rw [e.out]
      exact Ret.mk ⟨rfl, (sat_drewN _).2 h⟩
    · have hb9 : decide ((s.told : Int) - s.don < n) = false := by simpa using h9
      obtain ⟨k, rfl⟩ : ∃ k : Nat, n = k := ⟨n.toNat, by omega⟩
      have e : s.didS k = (0, (s.more k).next) := by unfold LogS.didS; rw [if_neg (by omega)]; rfl
      have hkt : s.don + k ≤ s.told := by omega
      have b5 : (s.don : Int) + k ≤ 1000 := by omega
      rw [e]
      clear e h
      go_enter Try.func29, Try.ntmps29
      go_wp2
      go_quiet (fail)
      have h2 := (sat_drewN nq).2 h1
      have d7 : (w.drewN nq).cell? ⟨pb, 7, none⟩ = some (.int .i64 s.don) := h2.cell (i := 7) rfl
      have f7 := h2.free 7
      have h3 := h2.set (i := 7) (.int .i64 (s.don + k))
      have e3 : (logCells lv m nv mv rv s).setIfInBounds 7 (.int .i64 (s.don + k)) = logCells lv m nv mv rv (s.more k) := rfl
      rw [e3] at h3
      generalize w.drewN nq = w0 at *
      clear c6 c7 e3 h1 h2
      go_upto_region 4 with fail
      generalize w0.setCell ⟨pb, 7, none⟩ (.int .i64 (s.don + k)) = w1 at *
      clear d7 f7
      have hrv := ReqsL.valn (SatL.pull h3 5 : SatL _ (ReqsL _ _ :: _))
      obtain ⟨ra, rc, rfl, r1, r2⟩ := hrv
      have c4 : w1.cell? ⟨pb, 4, none⟩ = some (.int .i64 s.phase) := h3.cell (i := 4) rfl
      have c5 : w1.cell? ⟨pb, 5, none⟩ = some (.slice ra (s.more k).R.length rc) := h3.cell (i := 5) rfl
      have c7 : w1.cell? ⟨pb, 7, none⟩ = some (.int .i64 (s.don + k)) := h3.cell (i := 7) rfl
      have hRl : (s.more k).R.length = s.R.length := rfl
      rw [hRl] at c5
      by_cases hp0 : s.phase = 0
      · have e : Hid ((s.more k).next = s.more k) := hid (by unfold LogS.next; rw [if_pos (.inl hp0)])
        rw [hp0] at c4
        rw [show ((0 : Nat) : Int) = 0 from rfl] at c4
        have hfin := (sat_LogR (s := s.more k)).2 ⟨lv, m, nv, mv, _, hf, h3⟩
        clear h3 hp0 onow odata hf
        go_quiet (fail)
        go_wp2
        go_ret
        rw [e.out]
        exact Ret.mk ⟨rfl, (sat_drewN _).2 hfin⟩
      · have hpz : ((s.phase : Int) == 0) = false := by simpa using hp0
        by_cases hlt : s.don + k < s.R.length
        · have e : Hid ((s.more k).next = s.more k) := hid (by unfold LogS.next; rw [if_pos (.inr hlt)])
          have hlz : decide ((s.don : Int) + k < s.R.length) = true := by simp; omega
          have hfin := (sat_LogR (s := s.more k)).2 ⟨lv, m, nv, mv, _, hf, h3⟩
          clear h3 onow odata hf hlt
          go_quiet (fail)
          go_wp2
          go_ret
          rw [e.out]
          exact Ret.mk ⟨rfl, (sat_drewN _).2 hfin⟩
        · have hlz : decide ((s.don : Int) + k < s.R.length) = false := by simp; omega
          have en : (s.more k).next = if s.phase = 8 then (s.more k).through else (s.more k).stays.enter (s.phase + 1) := by
            unfold LogS.next
            rw [if_neg (fun h5 => h5.elim hp0 hlt)]
            rfl
          have hrE := onow hp0
          clear hlt onow odata
          go_quiet (fail)
          have h4 := (sat_drewN nq).2 h3
          generalize w1.drewN nq = w2 at *
          clear c4 c5 c7 h3
          have c4 : w2.cell? ⟨pb, 4, none⟩ = some (.int .i64 s.phase) := h4.cell (i := 4) rfl
          by_cases h8 : s.phase = 8
          · have E : Hid ((s.more k).next = (s.more k).through) := hid (by rw [en, if_pos h8])
            rw [h8] at c4
            rw [show ((8 : Nat) : Int) = 8 from rfl] at c4
            obtain ⟨na, nc, rfl, n1, n2⟩ := PutsL.valn (SatL.pull h4 3 : SatL _ (PutsL nv _ :: _))
            have c2 : w2.cell? ⟨pb, 2, none⟩ = some (.slice na s.N.length nc) := h4.cell (i := 2) rfl
            have c3 : w2.cell? ⟨pb, 3, none⟩ = some mv := h4.cell (i := 3) rfl
            have c5 : w2.cell? ⟨pb, 5, none⟩ = some (.slice ra s.R.length rc) := h4.cell (i := 5) rfl
            have c6 : w2.cell? ⟨pb, 6, none⟩ = some (.int .i64 s.told) := h4.cell (i := 6) rfl
            have c7 : w2.cell? ⟨pb, 7, none⟩ = some (.int .i64 (s.don + k)) := h4.cell (i := 7) rfl
            have c9 : w2.cell? ⟨pb, 9, none⟩ = some (.int .u64 s.seq) := h4.cell (i := 9) rfl
            have f2 := h4.free 2
            have f3 := h4.free 3
            have f4 := h4.free 4
            have f5 := h4.free 5
            have f6 := h4.free 6
            have f7 := h4.free 7
            have f9 := h4.free 9
            have hw : IntKind.u64.wrap ((s.seq : Int) + 1) = (((s.seq + 1) % 18446744073709551616 : Nat) : Int) := by
              rcases Nat.lt_or_ge (s.seq + 1) 18446744073709551616 with h5 | h5
              · rw [Nat.mod_eq_of_lt h5]
                have := u64_in (s.seq + 1) h5
                push_cast at this ⊢
                exact this
              · have : s.seq = 18446744073709551615 := by omega
                rw [this]; rfl
            obtain ⟨sq, hsq⟩ : ∃ sq, sq = (s.seq + 1) % 18446744073709551616 := ⟨_, rfl⟩
            rw [← hsq] at hw
            have h5 := ((((((h4.set (i := 2) (.slice none 0 0)).set (i := 3) (.map none)).set (i := 4) (.int .i64 0)).set (i := 5) (.slice none 0 0)).set (i := 6) (.int .i64 0)).set (i := 7) (.int .i64 0)).set (i := 9) (.int .u64 sq)
            have h6 := (sat_GrpN (ks := [])).2 (.inl ⟨rfl, rfl, PutsL.nil h5⟩ : (.map none : Value) = .map none ∧ _ ∨ _)
            have hes : (s.more k).through = ⟨s.L, [], 0, [], 0, 0, s.start, sq, s.number, s.durable⟩ := by rw [hsq]; rfl
            have hfin := (sat_LogR (s := ⟨s.L, [], 0, [], 0, 0, s.start, sq, s.number, s.durable⟩)).2 ⟨lv, m, .slice none 0 0, .map none, .slice none 0 0, ⟨hf.1, Fit.nil⟩, (ReqsL.nil h6).bring [3, 4, 5, 2, 1, 0]⟩
            rw [← hes] at hfin
            clear h4 h5 h6 hes hsq en hf hrE h8 hpz hp0
            go_wp2
            go_ret
            rw [E.out]
            exact Ret.mk ⟨rfl, SatL.to hfin⟩
          · have h8z : ¬ (s.phase : Int) = 8 := by omega
            by_cases h6 : s.phase = 6
            · have E : Hid ((s.more k).next = (s.more k).stays.enter 7) := hid (by rw [en, if_neg h8, h6])
              rw [h6] at c4
              rw [show ((6 : Nat) : Int) = 6 from rfl] at c4
              have c10 : w2.cell? ⟨pb, 10, none⟩ = some (.int .i64 s.number) := h4.cell (i := 10) rfl
              have c11 : w2.cell? ⟨pb, 11, none⟩ = some (.int .i64 s.durable) := h4.cell (i := 11) rfl
              have f11 := h4.free 11
              have hn1 : (1 : Int) ≤ s.number := by omega
              have hn2 : (s.number : Int) ≤ 4611686018427387904 := by omega
              have h5 := h4.set (i := 11) (.int .i64 ((s.number : Int) - 1))
              have e5 : (logCells lv m nv mv (.slice ra s.R.length rc) (s.more k)).setIfInBounds 11 (.int .i64 ((s.number : Int) - 1)) = logCells lv m nv mv (.slice ra s.R.length rc) (s.more k).stays := by
                have e6 : (s.more k).stays = { s.more k with durable := s.number - 1 } := by unfold LogS.stays; rw [if_pos (show (s.more k).phase = 6 from h6)]; rfl
                rw [e6]
                have e7 : ((s.number : Int) - 1) = ((s.number - 1 : Nat) : Int) := by omega
                rw [e7]; rfl
              have est : (s.more k).stays.L = s.L ∧ (s.more k).stays.N = s.N ∧ (s.more k).stays.R = s.R ∧ (s.more k).stays.seq = s.seq ∧ (s.more k).stays.start = s.start := by
                unfold LogS.stays; split <;> exact ⟨rfl, rfl, rfl, rfl, rfl⟩
              obtain ⟨s1, s2, s3, s4, s5⟩ := est
              rw [e5] at h5
              have hfin : SatL _ (LogR pb (s.more k).stays :: L) := (sat_LogR (s := (s.more k).stays)).2 ⟨lv, m, nv, mv, .slice ra s.R.length rc, by rw [s1, s2]; exact hf, by rw [s1, s2, s3]; exact h5⟩
              have hent := enter_ok (s := (s.more k).stays) (p := 7) (by omega) (by rw [s4]; exact oseq) (by rw [s5]; exact ostart) (by rw [s2]; exact hrE) hfin
              rw [show ((7 : Nat) : Int) = 7 from rfl] at hent
              clear h4 h5 e5 hfin en hf hrE h6 h8 h8z hpz hp0 s1 s2 s3 s4 s5
              go_wp2_with (go_at_call 58; (with_reducible refine hent.mono ?_); rintro e w3 ⟨r, rfl, h9⟩)
              go_ret
              rw [E.out]
              exact Ret.mk ⟨rfl, h9⟩
            · have h6z : ¬ (s.phase : Int) = 6 := by omega
              have es : (s.more k).stays = s.more k := by unfold LogS.stays; rw [if_neg (show ¬ (s.more k).phase = 6 from h6)]
              have E : Hid ((s.more k).next = (s.more k).enter (s.phase + 1)) := hid (by rw [en, if_neg h8, es])
              have hfin := (sat_LogR (s := s.more k)).2 ⟨lv, m, nv, mv, _, hf, h4⟩
              have hent := enter_ok (s := s.more k) (p := s.phase + 1) (by omega) oseq ostart hrE hfin
              rw [show ((s.phase + 1 : Nat) : Int) = (s.phase : Int) + 1 by omega] at hent
              have hpb : (s.phase : Int) ≤ 8 := by omega
              have hpb2 : (0 : Int) ≤ s.phase := by omega
              clear h4 hfin en hf hrE h6 h8 es
              go_wp2_with (go_at_call 58; (with_reducible refine hent.mono ?_); rintro e w3 ⟨r, rfl, h9⟩)
              go_ret
              rw [E.out]
              exact Ret.mk ⟨rfl, h9⟩
end
end Go.Proofs.Ytjjnadlklfegcaa

namespace Go.Proofs.Ytjjnadlklfegcaa
set_option linter.unusedVariables false
set_option linter.unusedSimpArgs false
open Go.RowKit

def ReqSl (r : Rp) : Prop := ∃ a c, r.v = .slice a r.d.length c ∧ r.d.length ≤ c ∧ c ≤ 9223372036854775807
section
variable {w : World} {L : List HP}
theorem ReqsR.rdb {rv : Value} {rs : List Rp} {r : Rp} (h : SatL w (ReqsR rv rs :: L)) (hr : r ∈ rs) : RdB r.v r.d w := by
  obtain ⟨a, b, rfl⟩ := List.append_of_mem hr
  have h2 := big_mid.1 (sat_ReqsR.1 h).swap
  have h3 : SatL w (SlB 5 r.v r.d :: _) := h2
  exact SlB.rd h3
theorem ReqsR.sl {rv : Value} {rs : List Rp} {r : Rp} (h : SatL w (ReqsR rv rs :: L)) (hr : r ∈ rs) : ReqSl r := (ReqsR.rdb h hr).valn
theorem ReqsR.cells {b off n c j : Nat} {rs : List Rp} {r : Rp} (h : SatL w (ReqsR (.slice (some ⟨b, off, none⟩) n c) rs :: L)) (hr : rs[j]? = some r) :
    w.cell? ⟨b, off + j * 4, none⟩ = some (.int .i64 r.k) ∧ w.cell? ⟨b, off + j * 4 + 1, none⟩ = some (.int .i64 r.b) ∧ w.cell? ⟨b, off + j * 4 + 2, none⟩ = some (.int .i64 r.n) ∧ w.cell? ⟨b, off + j * 4 + 3, none⟩ = some r.v := by
  have h1 := sat_ReqsR.1 h
  obtain ⟨_, _, e, _⟩ := SlK.valn h1
  injection e with _ e2 _
  subst e2
  obtain ⟨c1, c2, c3, c4⟩ := rcells_get hr
  refine ⟨SlK.cell h1 c1, ?_, ?_, ?_⟩
  · rw [Nat.add_assoc]; exact SlK.cell h1 c2
  · rw [Nat.add_assoc]; exact SlK.cell h1 c3
  · rw [Nat.add_assoc]; exact SlK.cell h1 c4
theorem ReqsR.addr {a : Option Addr} {n c : Nat} {rs : List Rp} (h : SatL w (ReqsR (.slice a n c) rs :: L)) (hn : 0 < rs.length) : ∃ b off, a = some ⟨b, off, none⟩ := by
  rcases SlK.form (sat_ReqsR.1 h) with ⟨_, h2, _⟩ | ⟨b, off, cap, h1, _⟩
  · omega
  · injection h1 with h1 _ _; exact ⟨b, off, h1⟩
/-- one request more, in a plain walk -/
theorem wpList_oneReq {ops : Array Oper} {rest : List Oper} {o : Oper} {a : Act} {Q : Exit → Act → World → Prop} {nb : Nat} {v u : Value} {rs : List Rp} {k b n : Int} {d : List UInt8} (hnb : nb = w.heap.size) (hgd : o.guard = none) (s x : Operand)
    (ho : o.op = .call { callee := .builtin .append, args := #[s, x], argTypes := #[66, 66] }) (hs : a.eval s = v) (hy : a.eval x = .slice (some ⟨nb, 0, none⟩) 1 1)
    (hu : u.oneCell' = true) (h : SatL w (ReqsR v rs :: SlB 5 u d :: L)) (hl : rs.length ≤ 1000000)
    (K : ∀ v' w', SatL w' (ReqsR v' (rs ++ [⟨k, b, n, u, d⟩]) :: L) → wpList Try.prog ops Q rest (a.put o.dst v') w') :
    wpList Try.prog ops Q (o :: rest) a (w.alloc (.cells #[.int .i64 k, .int .i64 b, .int .i64 n, u] 80)) := by
  refine wpList_pushK_sl hnb hgd s x ho elem_req (by omega) hs (sat_ReqsR.1 h) hy rfl (by intro y hy; simp at hy; rcases hy with rfl | rfl | rfl | rfl <;> first | rfl | exact hu) (by omega) ?_
  intro v' w' h2
  exact K v' w' (ReqsR.snoc h2)
def LogS.wanted (s : LogS) : LogS := { s with told := s.R.length }
set_option maxRecDepth 100000 in
set_option maxHeartbeats 4000000 in
theorem want_ok {pb : Nat} {s : LogS} (h : SatL w (LogR pb s :: L)) (ht : s.told ≤ s.R.length) (hR : s.R.length ≤ 1000) (hd : ∀ r ∈ s.R, r.d.length ≤ 1000000) :
    Calls Try.prog 30 #[.pointer (some ⟨pb, 0, none⟩)] w (Ret fun r w' => SatL w' (ReqsL r (s.R.drop s.told) :: LogR pb s.wanted :: L)) := by
  obtain ⟨lv, m, nv, mv, rv, hf, h1⟩ := sat_LogR.1 h
  obtain ⟨rs, hrs, h2⟩ := sat_ReqsL.1 (SatL.pull h1 5 : SatL w (ReqsL _ _ :: _))
  have hrl : rs.length = s.R.length := by have := congrArg List.length hrs; rwa [List.length_map] at this
  have hdd : ∀ r ∈ rs, r.d.length ≤ 1000000 := by
    intro r hr
    exact hd ⟨r.k, r.b, r.n, r.d⟩ (by rw [← hrs]; exact List.mem_map_of_mem hr)
  have htr : s.told ≤ rs.length := by omega
  have hr1 : rs.length ≤ 1000 := by omega
  obtain ⟨ra, rc, rfl, q1, q2⟩ := SlK.valn (sat_ReqsR.1 h2)
  have h3 := sat_drew.2 h2
  have c5 := SatL.cell (SatL.pull h3 1 : SatL _ (cl pb _ _ :: _)) (i := 5) (v := .slice ra rs.length rc) rfl
  have c6 := SatL.cell (SatL.pull h3 1 : SatL _ (cl pb _ _ :: _)) (i := 6) (v := .int .i64 s.told) rfl
  have hfin : ∀ (w' : World) (ov : Value) (os : List Rp), rqs os = (rqs rs).drop s.told → SatL w' (ReqsR ov os :: cl pb 121 (logCells lv m nv mv (.slice ra rs.length rc) s.wanted) :: ReqsR (.slice ra rs.length rc) rs :: PutsL lv s.L :: GrpOf m (s.L.map (·.1)) :: PutsL nv s.N :: GrpN mv (s.N.map (·.1)) :: L) →
      SatL w' (ReqsL ov (s.R.drop s.told) :: LogR pb s.wanted :: L) := by
    intro w' ov os e h9
    have h10 := sat_ReqsL.2 ⟨os, (by rw [e, hrs] : rqs os = s.R.drop s.told), h9⟩
    have h11 := sat_ReqsL.2 ⟨rs, hrs, (SatL.pull h10 2 : SatL w' (ReqsR _ _ :: _))⟩
    exact ((sat_LogR (s := s.wanted)).2 ⟨lv, m, nv, mv, _, hf, h11.bring [2, 3, 4, 5, 6, 0]⟩).swap
  have HF := hid hfin
  have hz1 : (0 : Int) ≤ s.told := by omega
  have hz2 : (s.told : Int) ≤ rs.length := by omega
  have hz3 : (rs.length : Int) ≤ rc := by omega
  have hz4 : (rc : Int) ≤ 9223372036854775807 := by omega
  have hwn : s.R.length = rs.length := hrl.symm
  have Hwn := hid hwn
  have hs0 : SatL w.drew (ReqsR (.slice none 0 0) [] :: cl pb 121 (logCells lv m nv mv (.slice ra rs.length rc) s) :: ReqsR (.slice ra rs.length rc) rs :: PutsL lv s.L :: GrpOf m (s.L.map (·.1)) :: PutsL nv s.N :: GrpN mv (s.N.map (·.1)) :: L) :=
    sat_ReqsR.2 (SlK_nil ((big_nil (f := fun r : Rp => SlB 5 r.v r.d)).2 (h3.bring [1, 0])))
  generalize hT : s.told = t at *
  clear h h1 h2 h3 hrs hfin hrl hwn hd hR ht
  go_enter Try.func30, Try.ntmps30
  go_wp2
  have HLC : Hid (logCells lv m nv mv (.slice ra rs.length rc) s.wanted = (logCells lv m nv mv (.slice ra rs.length rc) s).setIfInBounds 6 (.int .i64 rs.length)) := by
    have e : (logCells lv m nv mv (.slice ra rs.length rc) s).setIfInBounds 6 (.int .i64 s.R.length) = logCells lv m nv mv (.slice ra rs.length rc) s.wanted := rfl
    rw [Hwn.out] at e
    exact e.symm
  by_cases hlt : t < rs.length
  · obtain ⟨b, off, rfl⟩ := ReqsR.addr (SatL.pull hs0 2 : SatL _ (ReqsR _ _ :: _)) (by omega)
    have hz5 : t < rc := by omega
    have hz6 : ¬ rc = t := by omega
    go_region
    go_wp2
    go_loopw [3, 18] (fun ov iv wr => ∃ (j : Nat) (os : List Rp), j ≤ rs.length - t ∧ iv = .int .i64 j ∧ rqs os = ((rqs rs).drop t).take j ∧ SatL wr (ReqsR ov os :: cl pb 121 (logCells lv m nv mv (.slice (some ⟨b, off, none⟩) rs.length rc) s) :: ReqsR (.slice (some ⟨b, off, none⟩) rs.length rc) rs :: PutsL lv s.L :: GrpOf m (s.L.map (·.1)) :: PutsL nv s.N :: GrpN mv (s.N.map (·.1)) :: L)) (fun _ iv _ => rs.length - t - (intOf iv).toNat)
    case atStart => exact ⟨0, [], by omega, rfl, rfl, hs0⟩
    case round =>
      clear hs0 c5 c6
      obtain ⟨j, os, hj, rfl, hos, hs⟩ := hrel
      have Hos := hid hos
      have hol : os.length ≤ 1000000 := by
        have := congrArg List.length hos
        rw [List.length_map, List.length_take] at this; omega
      obtain ⟨oa, oc, rfl, o1, o2⟩ := SlK.valn (sat_ReqsR.1 hs)
      by_cases hjn : j < rs.length - t
      · have hp : rs[t + j]? = some rs[t + j] := List.getElem?_eq_getElem (by omega)
        have hmem := List.getElem_mem (l := rs) (n := t + j) (by omega)
        obtain ⟨k0, k1, k2, k3⟩ := ReqsR.cells (SatL.pull hs 2 : SatL wr (ReqsR _ _ :: _)) hp
        obtain ⟨va, vc, hv, i1, i2⟩ := ReqsR.sl (SatL.pull hs 2 : SatL wr (ReqsR _ _ :: _)) hmem
        have e1 : off + (t + j) * 4 = off + t * 4 + j * 4 := by omega
        rw [e1] at k0 k1 k2 k3
        have hsn : rqs os ++ [⟨rs[t + j].k, rs[t + j].b, rs[t + j].n, rs[t + j].d⟩] = ((rqs rs).drop t).take (j + 1) := by
          rw [List.take_add_one, List.getElem?_drop, List.getElem?_map, hp, hos]; rfl
        have Hsn := hid hsn
        have hs1 := hs.alloc (.cells #[.int .i64 rs[t + j].k, .int .i64 rs[t + j].b, .int .i64 rs[t + j].n, rs[t + j].v] 80)
        have hcl := clone_rd hs1 (fun w' h' => ReqsR.rdb (SatL.pull h' 3 : SatL w' (ReqsR _ _ :: _)) hmem) (by have := hdd _ hmem; omega)
        rw [hv] at k3 hs1 hcl
        generalize rs[t + j].k = rk at *
        generalize rs[t + j].b = rb at *
        generalize rs[t + j].n = rn at *
        generalize rs[t + j].d = rd at *
        have y3 := SatL.cell (hs1 : SatL _ (cl _ _ _ :: _)) (i := 3) (v := .slice va rd.length vc) rfl
        have hjz : (j : Int) < ((rs.length - t : Nat) : Int) := by omega
        have t1 : True := trivial
        clear hp hmem hv hsn hos hs hs1 e1
        go_wp2_with (first
          | (have _t := t1; go_at_call 47; (with_reducible refine hcl.mono ?_); clear t1; rintro e w2 ⟨v2, rfl, h5⟩; obtain ⟨da, dc, rfl, _, _⟩ := SlB.valn h5; have x0 := SatL.cell (SatL.pull h5 1 : SatL w2 (cl _ _ _ :: _)) (i := 0) (v := .int .i64 rk) rfl; have x1 := SatL.cell (SatL.pull h5 1 : SatL w2 (cl _ _ _ :: _)) (i := 1) (v := .int .i64 rb) rfl; have x2 := SatL.cell (SatL.pull h5 1 : SatL w2 (cl _ _ _ :: _)) (i := 2) (v := .int .i64 rn) rfl; have x3 := SatL.cell (SatL.pull h5 1 : SatL w2 (cl _ _ _ :: _)) (i := 3) (v := .slice va rd.length vc) rfl; have f3 := SatL.free (SatL.pull h5 1 : SatL w2 (cl _ _ _ :: _)) 3; have h6 := (SatL.pull h5 1 : SatL w2 (cl _ _ _ :: _)).set (i := 3) (.slice da rd.length dc); have h7 : SatL _ (ReqsR (.slice oa os.length oc) os :: SlB 5 (.slice da rd.length dc) rd :: _) := h6.bring [2, 1])
          | (at_builtin; refine wpList_oneReq (w := w2.setCell ⟨wr.heap.size, 3, none⟩ (.slice da rd.length dc)) (nb := w2.heap.size) (by simp) rfl (.tmp 26) (.tmp 28) rfl rfl rfl rfl h7 hol ?_; intro v9 w9 h9))
        go_roundw
        case rel => exact ⟨j + 1, _, by omega, by go_num, by rw [rqs_snoc]; exact Hsn.out, SatL.tail (h9.bring [1, 0])⟩
        case measure => simp [intOf]; omega
      · obtain rfl : j = rs.length - t := by omega
        have e9 : rqs os = (rqs rs).drop t := by rw [hos]; exact List.take_of_length_le (by simp)
        have d5 := SatL.cell (SatL.pull hs 1 : SatL _ (cl pb _ _ :: _)) (i := 5) (v := .slice (some ⟨b, off, none⟩) rs.length rc) rfl
        have d6 := SatL.cell (SatL.pull hs 1 : SatL _ (cl pb _ _ :: _)) (i := 6) (v := .int .i64 s.told) rfl
        have f6 := SatL.free (SatL.pull hs 1 : SatL _ (cl pb _ _ :: _)) 6
        have h4 := (SatL.pull hs 1 : SatL _ (cl pb _ _ :: _)).set (i := 6) (.int .i64 rs.length)
        rw [← HLC.out] at h4
        have h5 := HF.out _ _ _ e9 h4.swap
        clear hs h4 e9 hos
        go_wp2
        go_ret
        exact Ret.mk h5
  · obtain rfl : t = rs.length := by omega
    have e9 : rqs ([] : List Rp) = (rqs rs).drop rs.length := by rw [List.drop_of_length_le (by simp)]; rfl
    have d5 := SatL.cell (SatL.pull hs0 1 : SatL _ (cl pb _ _ :: _)) (i := 5) (v := .slice ra rs.length rc) rfl
    have d6 := SatL.cell (SatL.pull hs0 1 : SatL _ (cl pb _ _ :: _)) (i := 6) (v := .int .i64 s.told) rfl
    have f6 := SatL.free (SatL.pull hs0 1 : SatL _ (cl pb _ _ :: _)) 6
    have h4 := (SatL.pull hs0 1 : SatL _ (cl pb _ _ :: _)).set (i := 6) (.int .i64 rs.length)
    rw [← HLC.out] at h4
    have h5 := hid (HF.out _ _ _ e9 h4.swap)
    have hra : (ra = none ∧ rs.length = 0 ∧ rc = 0) ∨ ∃ b off, ra = some ⟨b, off, none⟩ := by
      rcases SlK.form (sat_ReqsR.1 (SatL.pull hs0 2 : SatL _ (ReqsR _ _ :: _))) with ⟨h1, h2, _⟩ | ⟨b, off, cap, h1, _⟩
      · injection h1 with a1 a2 a3; exact .inl ⟨a1, h2, a3⟩
      · injection h1 with a1 _ _; exact .inr ⟨b, off, a1⟩
    clear hs0 h4 e9 hlt
    rcases hra with ⟨rfl, hn0, rfl⟩ | ⟨b, off, rfl⟩
    · have h5 := h5.out
      have e0 : ((rs.length : Nat) : Int) = 0 := by omega
      rw [e0] at c6 h5
      rw [hn0] at c5 d5
      clear hn0 HF HLC e0 hz1 hz2 hz3
      go_region
      generalize w.drew = wd at *
      go_wp2
      go_loopw [3, 18] (fun ov iv wr => ov = .slice none 0 0 ∧ iv = .int .i64 0 ∧ wr = wd) (fun _ _ _ => 0)
      case atStart => exact ⟨rfl, rfl, rfl⟩
      case round =>
        obtain ⟨rfl, rfl, rfl⟩ := hrel
        go_wp2
        go_ret
        exact Ret.mk h5
    · have h5 := h5.out
      by_cases hcap : rc = rs.length
      · clear HF HLC
        go_region
        generalize w.drew = wd at *
        go_wp2
        go_loopw [3, 18] (fun ov iv wr => ov = .slice none 0 0 ∧ iv = .int .i64 0 ∧ wr = wd) (fun _ _ _ => 0)
        case atStart => exact ⟨rfl, rfl, rfl⟩
        case round =>
          obtain ⟨rfl, rfl, rfl⟩ := hrel
          go_wp2
          go_ret
          exact Ret.mk h5
      · have hcap2 : rs.length < rc := by omega
        clear HF HLC
        go_region
        generalize w.drew = wd at *
        go_wp2
        go_loopw [3, 18] (fun ov iv wr => ov = .slice none 0 0 ∧ iv = .int .i64 0 ∧ wr = wd) (fun _ _ _ => 0)
        case atStart => exact ⟨rfl, rfl, rfl⟩
        case round =>
          obtain ⟨rfl, rfl, rfl⟩ := hrel
          go_wp2
          go_ret
          exact Ret.mk h5
end
end Go.Proofs.Ytjjnadlklfegcaa

namespace Go.Proofs.Ytjjnadlklfegcaa
set_option linter.unusedVariables false
set_option linter.unusedSimpArgs false
open Go.RowKit

def LogS.at (s : LogS) (p : Nat) : LogS :=
  if p ≤ 8 then { s with phase := p, R := reqsOf s p, told := 0, don := 0, durable := if 7 ≤ p then s.number - 1 else s.durable }
  else { s with N := [], phase := 0, R := [], told := 0, don := 0, seq := (s.seq + 1) % 18446744073709551616, durable := s.number - 1 }
theorem did_all {s : LogS} (h1 : s.told = s.R.length) (h2 : s.don = 0) (h3 : s.phase ≠ 0) : s.didS s.R.length = (0, if s.phase = 8 then (s.more s.R.length).through else (s.more s.R.length).stays.enter (s.phase + 1)) := by
  unfold LogS.didS
  rw [if_neg (by omega)]
  have e : (s.R.length : Int).toNat = s.R.length := by omega
  rw [e]
  have e2 : (s.more s.R.length).next = if s.phase = 8 then (s.more s.R.length).through else (s.more s.R.length).stays.enter (s.phase + 1) := by
    unfold LogS.next
    rw [if_neg]
    · rfl
    · rintro (h | h)
      · exact h3 h
      · have : s.don + s.R.length < s.R.length := h
        omega
  rw [e2]
theorem at_phase (s : LogS) {p : Nat} (hp : 1 ≤ p ∧ p ≤ 8) : (s.at p).phase = p := by unfold LogS.at; rw [if_pos hp.2]
theorem at_next (s : LogS) {p : Nat} (hp : 1 ≤ p ∧ p ≤ 8) : (s.at p).wanted.didS (s.at p).R.length = (0, s.at (p + 1)) := by
  have h1 : (s.at p).wanted.phase = p := at_phase s hp
  have h2 : (s.at p).wanted.don = 0 := by unfold LogS.wanted LogS.at; rw [if_pos hp.2]
  have h := did_all (s := (s.at p).wanted) rfl h2 (by rw [h1]; omega)
  rw [show (s.at p).wanted.R = (s.at p).R from rfl] at h
  rw [h, h1]
  have hc : p = 1 ∨ p = 2 ∨ p = 3 ∨ p = 4 ∨ p = 5 ∨ p = 6 ∨ p = 7 ∨ p = 8 := by omega
  rcases hc with rfl | rfl | rfl | rfl | rfl | rfl | rfl | rfl <;> rfl
theorem enter_at (s : LogS) (h : s.durable = s.durable) : s.enter 1 = s.at 1 := rfl
theorem wreqs_len (st : Int) (ls : List PD) (c : Nat) : (wreqs st ls c).length = c := by simp [wreqs]
theorem flat_le {l : List PD} (h : ∀ p ∈ l, p.2.length = 512) : ((l.map (·.2)).flatten).length ≤ 512 * l.length := by
  induction l with
  | nil => simp
  | cons p l ih =>
    have h1 := h p (by simp)
    have h2 := ih (fun q hq => h q (List.mem_cons_of_mem _ hq))
    simp only [List.map_cons, List.flatten_cons, List.length_append, List.length_cons]
    omega
theorem reqs_small {s : LogS} (hN : recErr s.N = 0) (hf : Fit s.N) (p : Nat) : (reqsOf s p).length ≤ 1000 ∧ ∀ r ∈ reqsOf s p, r.d.length ≤ 1000000 := by
  have hl := hf.1
  unfold reqsOf
  split
  · refine ⟨by simp only [List.length_singleton]; omega, fun r hr => ?_⟩
    rw [List.mem_singleton.1 hr]
    simp only [List.length_replicate]; omega
  split
  · refine ⟨by rw [wreqs_len]; omega, fun r hr => ?_⟩
    obtain ⟨c, hc, rfl⟩ := List.mem_map.1 hr
    unfold wreq
    have h512 : ∀ q ∈ (recAll s.seq s.N).drop 1, q.2.length = 512 := by
      intro q hq
      have hq2 : q ∈ inRow 1 s.N ++ [recEnd s.seq s.N] := hq
      rcases List.mem_append.1 hq2 with h | h
      · obtain ⟨i, x, hx, rfl⟩ := inRow_mem h
        exact hf.len x (List.mem_of_getElem? hx)
      · rw [List.mem_singleton.1 h]; exact endOf_len _ _
    have h1 := flat_le (l := (((recAll s.seq s.N).drop 1).drop (16 * c)).take 16) (fun q hq => h512 q (List.mem_of_mem_drop (List.mem_of_mem_take hq)))
    have h2 : ((((recAll s.seq s.N).drop 1).drop (16 * c)).take 16).length ≤ 16 := by rw [List.length_take]; omega
    simp only
    omega
  split
  · refine ⟨by simp, fun r hr => ?_⟩
    rw [List.mem_singleton.1 hr]
    simp only [headB_len hl]; omega
  split
  · refine ⟨by rw [List.length_map]; omega, fun r hr => ?_⟩
    obtain ⟨q, hq, rfl⟩ := List.mem_map.1 hr
    have := hf.len q hq
    simp only; omega
  · exact ⟨by simp, by simp⟩
/-- what a log must be ahead of a commit -/
structure Runs (s : LogS) : Prop where
  seq : s.seq < 18446744073709551616
  start : 0 ≤ s.start ∧ s.start ≤ 4611686018427387904
  num : 1 ≤ s.number ∧ s.number ≤ 4611686018427387904
  now : recErr s.N = 0
  fit : Fit s.N
theorem Runs.inv {s : LogS} (h : Runs s) {p : Nat} (hp : 1 ≤ p ∧ p ≤ 8) : LogInv (s.at p).wanted := by
  obtain ⟨r1, r2⟩ := reqs_small h.now h.fit p
  have e : s.at p = { s with phase := p, R := reqsOf s p, told := 0, don := 0, durable := if 7 ≤ p then s.number - 1 else s.durable } := by unfold LogS.at; rw [if_pos hp.2]
  rw [e]
  exact ⟨h.seq, h.start, h.num, fun _ => h.now, hp.2, Nat.zero_le _, Nat.le_refl _, r1, r2⟩
theorem Runs.small {s : LogS} (h : Runs s) {p : Nat} (hp : 1 ≤ p ∧ p ≤ 8) : (s.at p).told ≤ (s.at p).R.length ∧ (s.at p).R.length ≤ 1000 ∧ (∀ r ∈ (s.at p).R, r.d.length ≤ 1000000) ∧ (s.at p).R.drop (s.at p).told = (s.at p).R := by
  obtain ⟨r1, r2⟩ := reqs_small h.now h.fit p
  have e : s.at p = { s with phase := p, R := reqsOf s p, told := 0, don := 0, durable := if 7 ≤ p then s.number - 1 else s.durable } := by unfold LogS.at; rw [if_pos hp.2]
  rw [e]
  exact ⟨Nat.zero_le _, r1, r2, rfl⟩
section
variable {w : World} {L : List HP} {pb : Nat} {s : LogS}
theorem want_at {p : Nat} (hr : Runs s) (hp : 1 ≤ p ∧ p ≤ 8) (h : SatL w (LogR pb (s.at p) :: L)) :
    Calls Try.prog 30 #[.pointer (some ⟨pb, 0, none⟩)] w (Ret fun r w' => SatL w' (ReqsL r (s.at p).R :: LogR pb (s.at p).wanted :: L)) := by
  obtain ⟨h1, h2, h3, h4⟩ := hr.small hp
  have := want_ok h h1 h2 h3
  rw [h4] at this
  exact this
theorem did_at {p : Nat} (hr : Runs s) (hp : 1 ≤ p ∧ p ≤ 8) (h : SatL w (LogR pb (s.at p).wanted :: L)) :
    Calls Try.prog 29 #[.pointer (some ⟨pb, 0, none⟩), .int .i64 (s.at p).R.length] w (Ret fun r w' => r = .int .i64 0 ∧ SatL w' (LogR pb (s.at (p + 1)) :: L)) := by
  have hs := (hr.small hp).2.1
  have := did_ok (n := (s.at p).R.length) (hr.inv hp) (by omega) h
  rw [at_next s hp] at this
  exact this
end
end Go.Proofs.Ytjjnadlklfegcaa

namespace Go.Proofs.Ytjjnadlklfegcaa
set_option linter.unusedVariables false
set_option linter.unusedSimpArgs false
open Go.RowKit

/-- what was told last of a place, over a list -/
def wf (W : List UInt8) (ps : List PD) (a : Int) : List UInt8 := ps.foldl (fun acc p => if p.1 = a then p.2 else acc) W
theorem wf_snoc (W : List UInt8) (ps : List PD) (p : PD) (a : Int) : wf W (ps ++ [p]) a = if p.1 = a then p.2 else wf W ps a := by unfold wf; rw [List.foldl_append]; rfl
theorem gfind_snoc (l : List PD) (p : PD) (a : Int) : gfind (l ++ [p]) a = (gfind l a).or (if p.1 = a then some p.2 else none) := by
  unfold gfind
  rw [List.map_append, List.map_cons, List.map_nil, plc_snoc]
  cases hp : plc (l.map (·.1)) a with
  | some i =>
    have hi := plc_lt hp
    rw [List.length_map] at hi
    simp only [Option.or]
    rw [List.getElem?_append_left hi, List.getElem?_eq_getElem hi]
    rfl
  | none =>
    simp only [Option.none_or]
    by_cases e : p.1 = a
    · rw [if_pos e, if_pos e, List.length_map]; simp
    · rw [if_neg e, if_neg e]
theorem wf_find {l : List PD} (hn : (l.map (·.1)).Nodup) (W : List UInt8) (a : Int) : wf W l a = (gfind l a).getD W := by
  have key : ∀ (r : List PD), (r.reverse.map (·.1)).Nodup → wf W r.reverse a = (gfind r.reverse a).getD W := by
    intro r
    induction r with
    | nil => intro _; rfl
    | cons p r ih =>
      intro h
      rw [List.reverse_cons] at h ⊢
      rw [List.map_append, List.nodup_append] at h
      rw [wf_snoc, gfind_snoc, ih h.1]
      by_cases e : p.1 = a
      · have hno : gfind r.reverse a = none := by
          unfold gfind
          rw [plc_none.2 (fun hm => h.2.2 _ hm a (by simp [e]) rfl)]
        rw [if_pos e, if_pos e, hno]; rfl
      · rw [if_neg e, if_neg e, Option.or_none]
  have := key l.reverse (by rw [List.reverse_reverse]; exact hn)
  rwa [List.reverse_reverse] at this
theorem wf_both {P Q : List PD} (hP : (P.map (·.1)).Nodup) (hQ : (Q.map (·.1)).Nodup) (a : Int) : wf (wf [] P a) Q a = ((gfind Q a).or (gfind P a)).getD [] := by
  rw [wf_find hQ, wf_find hP]
  cases gfind Q a <;> rfl
theorem gputs_nil {P : List PD} (h : (P.map (·.1)).Nodup) : gputs [] P = P := by
  have key : ∀ (r : List PD), (r.reverse.map (·.1)).Nodup → gputs [] r.reverse = r.reverse := by
    intro r
    induction r with
    | nil => intro _; rfl
    | cons p r ih =>
      intro h
      rw [List.reverse_cons] at h ⊢
      rw [List.map_append, List.nodup_append] at h
      rw [gputs_snoc, ih h.1]
      unfold gput
      rw [plc_none.2 (fun hm => h.2.2 _ hm p.1 (by simp) rfl)]
  have := key P.reverse (by rw [List.reverse_reverse]; exact h)
  rwa [List.reverse_reverse] at this
theorem gfind_mem {l : List PD} {a : Int} {d : List UInt8} (h : gfind l a = some d) : ∃ p ∈ l, p.2 = d := by
  unfold gfind at h
  split at h
  · rename_i i hi
    cases hl : l[i]? with
    | none => rw [hl] at h; simp at h
    | some p => rw [hl] at h; simp at h; exact ⟨p, List.mem_of_getElem? hl, h⟩
  · cases h
/-- a group is sound -/
theorem grp_fit {G : List PD} (h : GrpOk G) (hl : G.length ≤ 30) : Fit G ∧ joinE G = 0 ∧ ∀ p ∈ G, p.2.length = 512 := by
  have h1 : ∀ p ∈ G, soundE p = 0 ∧ p.2.length = 512 := by
    intro p hp
    obtain ⟨b1, b2, c, hc⟩ := h.2 p hp
    constructor
    · unfold soundE; rw [if_neg (by omega), if_neg (by rw [hc, putB_len]; simp)]
    · rw [hc, putB_len]
  refine ⟨⟨by omega, fun p hp => (h1 p hp).1⟩, ?_, fun p hp => (h1 p hp).2⟩
  clear h hl
  induction G with
  | nil => rfl
  | cons p G ih =>
    unfold joinE
    rw [if_neg (by rw [(h1 p (by simp)).1]; simp)]
    exact ih fun q hq => h1 q (List.mem_cons_of_mem _ hq)
def fA (P : List PD) : LogS := ⟨P, [], 0, [], 0, 0, 2, 1, 1, 0⟩
def fB (P Q : List PD) : LogS := ⟨Q, P, 0, [], 0, 0, 2, 1, 2, 0⟩
def fC (Q : List PD) : LogS := ⟨[], Q, 0, [], 0, 0, 2, 2, 3, 1⟩
theorem find_join1 {P : List PD} (h : GrpOk P) (hl : P.length ≤ 30) : (logNew 2 1).join P = (1, 0, fA P) := by
  obtain ⟨h1, h2, h3⟩ := grp_fit h hl
  unfold LogS.join
  rw [if_neg (by rw [h2]; simp), show (logNew 2 1).L = [] from rfl, gputs_nil h.1, if_neg (by omega)]
  rfl
theorem find_start1 {P : List PD} (hn : P ≠ []) : (fA P).startS = (0, (fB P []).at 1) := by
  unfold LogS.startS
  rw [if_neg (show ¬ (fA P).phase ≠ 0 from fun h => h rfl), if_neg (show ¬ (fA P).L = [] from hn)]
  rfl
theorem find_join2 {P Q : List PD} (h : GrpOk Q) (hl : Q.length ≤ 30) : ((fB P []).at 1).join Q = (2, 0, (fB P Q).at 1) := by
  obtain ⟨h1, h2, h3⟩ := grp_fit h hl
  unfold LogS.join
  rw [if_neg (by rw [h2]; simp), show ((fB P []).at 1).L = [] from rfl, gputs_nil h.1, if_neg (by omega)]
  rfl
theorem find_start2 {P Q : List PD} (hn : Q ≠ []) : LogS.startS ((fB P Q).at 9) = (0, (fC Q).at 1) := by
  unfold LogS.startS
  rw [if_neg (show ¬ ((fB P Q).at 9).phase ≠ 0 from fun h => h rfl), if_neg (show ¬ ((fB P Q).at 9).L = [] from hn)]
  rfl
theorem fB_runs {P Q : List PD} (h : GrpOk P) (hl : P.length ≤ 30) (hn : P ≠ []) : Runs (fB P Q) :=
  ⟨by show (1 : Nat) < _; omega, by show (0 : Int) ≤ 2 ∧ (2 : Int) ≤ _; omega, by show (1 : Nat) ≤ 2 ∧ (2 : Nat) ≤ _; omega, fit_sound (grp_fit h hl).1 h.1 hn, (grp_fit h hl).1⟩
theorem fC_runs {Q : List PD} (h : GrpOk Q) (hl : Q.length ≤ 30) (hn : Q ≠ []) : Runs (fC Q) :=
  ⟨by show (2 : Nat) < _; omega, by show (0 : Int) ≤ 2 ∧ (2 : Int) ≤ _; omega, by show (1 : Nat) ≤ 3 ∧ (3 : Nat) ≤ _; omega, fit_sound (grp_fit h hl).1 h.1 hn, (grp_fit h hl).1⟩
/-- how many phases are left, read off the log's cell -/
def phm (pb : Nat) (w : World) : Nat := match w.cell? ⟨pb, 4, none⟩ with | some (.int _ v) => if v = 0 then 0 else 10 - v.toNat | _ => 0
theorem LogR.phm {w : World} {L : List HP} {pb : Nat} {s : LogS} (h : SatL w (LogR pb s :: L)) : phm pb w = if s.phase = 0 then 0 else 10 - s.phase := by
  obtain ⟨lv, m, nv, mv, rv, hf, h1⟩ := sat_LogR.1 h
  have c4 : w.cell? ⟨pb, 4, none⟩ = some (.int .i64 s.phase) := h1.cell (i := 4) rfl
  unfold Go.Proofs.Ytjjnadlklfegcaa.phm
  rw [c4]
  simp only
  by_cases h0 : s.phase = 0
  · rw [if_pos (by omega), if_pos h0]
  · rw [if_neg (by omega), if_neg h0]; omega

set_option maxRecDepth 100000 in
set_option maxHeartbeats 16000000 in
theorem finds_walk (a0 : Option Addr) (l0 c0 : Nat) (A0 S0 : Nat → Int) (B0 : Nat → Nat) (a1 : Option Addr) (l1 c1 : Nat) (A1 S1 : Nat → Int) (B1 : Nat → Nat) (w : World)
    (hC0 : BlkRow a0 l0 A0 S0 B0 w) (hB0 : ∀ i, B0 i < 256) (hC1 : BlkRow a1 l1 A1 S1 B1 w) (hB1 : ∀ i, B1 i < 256) :
    Calls Try.prog 7 #[.slice a0 l0 c0, .slice a1 l1 c1] w (Ret fun v w' => v = .bool true ∧ SatL w' [old w]) := by
  have hk := known_ok (sat_old w)
  have hg0 : Gives [old w] (BlkRow a0 l0 A0 S0 B0) := gives_row hC0
  have hg1 : Gives [old w] (BlkRow a1 l1 A1 S1 B1) := gives_row hC1
  by_cases hG : grpOf l0 A0 B0 = []
  · have hn0 := fun (w' : World) (h : SatL w' [old w]) => group_no (c := c0) (T := 23) hB0 hG h hg0
    have hn1 : ∃ r1 : Value → Prop, (∀ v, r1 v → ∃ a n c, v = .slice a n c) ∧ ∀ (w' : World), SatL w' [old w] → Calls Try.prog 19 #[.slice (some ⟨w'.heap.size, 0, none⟩) 1 1] (w'.alloc (.cells #[.slice a1 l1 c1] 23)) (Ret fun r w2 => r1 r ∧ SatL w2 [old w]) := by
      refine ⟨fun v => ∃ a n c, v = .slice a n c, fun v h => h, fun w' h => ?_⟩
      by_cases hH : grpOf l1 A1 B1 = []
      · refine (group_no hB1 hH h hg1).mono ?_
        rintro e w2 ⟨r, rfl, ga, gc, rfl, h2⟩
        exact ⟨_, rfl, ⟨ga, 0, gc, rfl⟩, h2⟩
      · refine (group_yes hB1 hH h hg1).mono ?_
        rintro e w2 ⟨r, rfl, gb, go, gc, ua, uc, ps, rfl, hps, h2⟩
        exact ⟨_, rfl, ⟨_, _, _, rfl⟩, h2.tail.tail⟩
    obtain ⟨r1, hr1, hn1⟩ := hn1
    have Hr1 := hid hr1
    clear hr1 hC0 hC1 hB0 hB1 hG
    go_enter Try.func7, Try.ntmps7
    have t1 : True := trivial
    go_wp2_with (first
      | (go_at_call 11; (with_reducible refine hk.mono ?_); rintro e w1 ⟨v, rfl, rfl, h1⟩)
      | (have _t := t1; go_at_call 19; (with_reducible refine (hn0 _ h1).mono ?_); rintro e w2 ⟨r, rfl, ga, gc, rfl, h2⟩; clear t1; have t2 : True := trivial)
      | (have _t := t2; go_at_call 19; (with_reducible refine (hn1 _ h2).mono ?_); rintro e w3 ⟨r, rfl, hr, h3⟩; clear t2; obtain ⟨va, vn, vc, rfl⟩ := Hr1.out _ hr))
    go_ret
    exact ⟨_, rfl, rfl, h3⟩
  · by_cases hH : grpOf l1 A1 B1 = []
    · have hn0 := fun (w' : World) (h : SatL w' [old w]) => group_yes (c := c0) (T := 23) hB0 hG h hg0
      have hn1 := fun (w' : World) (h : SatL w' [old w]) => group_no (c := c1) (T := 23) hB1 hH h hg1
      clear hC0 hC1 hB0 hB1 hG hH
      go_enter Try.func7, Try.ntmps7
      have t1 : True := trivial
      go_wp2_with (first
        | (go_at_call 11; (with_reducible refine hk.mono ?_); rintro e w1 ⟨v, rfl, rfl, h1⟩)
        | (have _t := t1; go_at_call 19; (with_reducible refine (hn0 _ h1).mono ?_); rintro e w2 ⟨r, rfl, gb, go, gc, ua, uc, ps, rfl, hps, h2⟩; clear t1 hps; have h2 := h2.tail.tail; have t2 : True := trivial)
        | (have _t := t2; go_at_call 19; (with_reducible refine (hn1 _ h2).mono ?_); rintro e w3 ⟨r, rfl, ga, gc2, rfl, h3⟩; clear t2))
      go_ret
      exact ⟨_, rfl, rfl, h3⟩
    · have hn0 := fun (w' : World) (h : SatL w' [old w]) => group_yes (c := c0) (T := 23) hB0 hG h hg0
      have hn1 := fun (w' : World) (L : List HP) (h : SatL w' L) (g : Gives L (BlkRow a1 l1 A1 S1 B1)) => group_yes (c := c1) (T := 23) hB1 hH h g
      have okP := grpOf_ok l0 A0 B0
      have okQ := grpOf_ok l1 A1 B1
      have lnP := grpOf_len l0 A0 B0
      have lnQ := grpOf_len l1 A1 B1
      generalize grpOf l0 A0 B0 = P at *
      generalize grpOf l1 A1 B1 = Q at *
      have hnew := fun (w' : World) (L : List HP) (h : SatL w' L) => new_ok (start := 2) (seq := 1) (by omega) h
      rw [show ((1 : Nat) : Int) = 1 from rfl] at hnew
      have hst1 := fun (w' : World) (pb : Nat) (L : List HP) (h : SatL w' (LogR pb (fA P) :: L)) => start_ok h (by show (1 : Nat) < _; omega) (by show (0 : Int) ≤ 2 ∧ (2 : Int) ≤ _; omega) (by show (1 : Nat) ≤ _; omega)
      simp only [find_start1 hG] at hst1
      have hj1 := fun (w' : World) (pb : Nat) (v : Value) (ps : List Pt) (L : List HP) (hps : pds ps = P) (h : SatL w' (LogR pb (logNew 2 1) :: L)) (g : Gives L (RdPD v ps)) => join_ok h g (by have := congrArg List.length hps; rw [List.length_map] at this; omega)
        (fun p hp => by have := (grp_fit okP lnP).2.2 (p.b, p.d) (by rw [← hps]; exact List.mem_map_of_mem hp); simp only at this; omega)
      have hj2 := fun (w' : World) (pb : Nat) (v : Value) (qs : List Pt) (L : List HP) (hqs : pds qs = Q) (h : SatL w' (LogR pb ((fB P []).at 1) :: L)) (g : Gives L (RdPD v qs)) => join_ok h g (by have := congrArg List.length hqs; rw [List.length_map] at this; omega)
        (fun p hp => by have := (grp_fit okQ lnQ).2.2 (p.b, p.d) (by rw [← hqs]; exact List.mem_map_of_mem hp); simp only at this; omega)
      have rB := fB_runs okP lnP hG (Q := Q)
      have rB : Runs (fB P Q) := ⟨rB.seq, rB.start, rB.num, rB.now, rB.fit⟩
      have rC := fC_runs okQ lnQ hH
      have E1 := find_join1 okP lnP
      have E2 := find_join2 (P := P) okQ lnQ
      have RB := hid rB
      have RC := hid rC
      have HE1 := hid E1
      have HE2 := hid E2
      have OkP := hid okP
      have OkQ := hid okQ
      have HnQ := hid hH
      have HnP := hid hG
      clear hC0 hC1 hB0 hB1 hG hH rB rC E1 E2 okP okQ
      go_enter Try.func7, Try.ntmps7
      have t1 : True := trivial
      go_upto_region 16 with (first
        | (go_at_call 11; (with_reducible refine hk.mono ?_); rintro e w1 ⟨v, rfl, rfl, h1⟩)
        | (have _t := t1; go_at_call 19; (with_reducible refine (hn0 _ h1).mono ?_); rintro e w2 ⟨r, rfl, gb, go, gc, ua, uc, ps, rfl, hps, h2⟩; clear t1; have Hps := hid hps; clear hps; have hn1 := hn1 _ _ h2 (Gives.next (Gives.next hg1)); have t2 : True := trivial)
        | (have _t := t2; go_at_call 19; (with_reducible refine hn1.mono ?_); rintro e w3 ⟨r, rfl, hb, ho, hc, va, vc, qs, rfl, hqs, h3⟩; clear t2; have Hqs := hid hqs; clear hqs)
        | (go_at_call 22; (with_reducible refine (hnew _ _ h3).mono ?_); rintro e w4 ⟨r, rfl, pb, rfl, h4⟩; have cP := Sl.cell (SatL.pull h4 3 : SatL w4 (Sl _ _ _ :: _)) (i := 0) rfl; rw [Nat.add_zero] at cP; have hj1' := hj1 _ _ _ _ _ Hps.out h4 (fun w' h' => PutsR.rdpd (SatL.pull h' 3 : SatL w' (PutsR _ _ :: _))); rw [Hps.out, HE1.out] at hj1'; have t3 : True := trivial)
        | (have _t := t3; go_at_call 23; (with_reducible refine hj1'.mono ?_); rintro e w5 ⟨r, rfl, rfl, h5⟩; clear t3 hj1'; have hst1' := hst1 _ _ _ h5)
        | (go_at_call 26; (with_reducible refine hst1'.mono ?_); rintro e w6 ⟨r, rfl, rfl, h6⟩; have cQ := Sl.cell (SatL.pull h6 1 : SatL w6 (Sl _ _ _ :: _)) (i := 0) rfl; rw [Nat.add_zero] at cQ; have hj2' := hj2 _ _ _ _ _ Hqs.out h6 (fun w' h' => PutsR.rdpd (SatL.pull h' 1 : SatL w' (PutsR _ _ :: _))); rw [Hqs.out, HE2.out] at hj2'; have t4 : True := trivial)
        | (have _t := t4; go_at_call 23; (with_reducible refine hj2'.mono ?_); rintro e w7 ⟨r, rfl, rfl, h7⟩; clear t4 hj2'))
      -- END
      have lpsP : ps.length ≤ 30 := by have := congrArg List.length Hps.out; rw [List.length_map] at this; omega
      have lqsQ : qs.length ≤ 30 := by have := congrArg List.length Hqs.out; rw [List.length_map] at this; omega
      obtain ⟨R, hR⟩ : ∃ R, R = [Sl 25 (.slice (some ⟨hb, ho, none⟩) 1 hc) [.slice va qs.length vc], PutsR (.slice va qs.length vc) qs, Sl 25 (.slice (some ⟨gb, go, none⟩) 1 gc) [.slice ua ps.length uc], PutsR (.slice ua ps.length uc) ps, old w] := ⟨_, rfl⟩
      rw [← hR] at h7
      have fP : ∀ (w' : World), SatL w' R → w'.cell? ⟨gb, go, none⟩ = some (.slice ua ps.length uc) ∧ w'.cell? ⟨hb, ho, none⟩ = some (.slice va qs.length vc) ∧ RdPD (.slice ua ps.length uc) ps w' ∧ RdPD (.slice va qs.length vc) qs w' := by
        intro w' h
        rw [hR] at h
        have x1 := Sl.cell (SatL.pull h 2 : SatL w' (Sl _ _ _ :: _)) (i := 0) rfl
        have x2 := Sl.cell (h : SatL w' (Sl _ _ _ :: _)) (i := 0) rfl
        rw [Nat.add_zero] at x1 x2
        exact ⟨x1, x2, PutsR.rdpd (SatL.pull h 3 : SatL w' (PutsR _ _ :: _)), PutsR.rdpd (SatL.pull h 1 : SatL w' (PutsR _ _ :: _))⟩
      have fO : ∀ (w' : World), SatL w' R → SatL w' [old w] := by
        intro w' h
        rw [hR] at h
        exact h.tail.tail.tail.tail
      have FP := hid fP
      have FO := hid fO
      clear hR fP fO h1 h2 h3 h4 h5 h6 cP cQ hn0 hn1 hg0 hg1 hj1 hj2 hst1 hst1' hnew hk rB
      go_wp2
      go_loopw [12] (fun iv wr => ∃ a : Nat, 70 ≤ a ∧ a ≤ 100 ∧ iv = .int .i64 a ∧ SatL wr (LogR pb ((fB P Q).at 1) :: R)) (fun iv _ => 100 - (intOf iv).toNat)
      case atStart => exact ⟨70, by omega, by omega, rfl, h7⟩
      case round =>
        clear h7
        obtain ⟨a, ha1, ha2, rfl, hs⟩ := hrel
        by_cases hlt : a < 100
        · have fr := FP.out _ hs.tail
          have haz : (a : Int) < 100 := by omega
          obtain ⟨m1, m2, _, _⟩ := fr
          have fr := FP.out _ hs.tail
          go_wp2
          go_loopw [13, 14] (fun sv iv w' => ∃ k : Nat, k ≤ ps.length ∧ sv = .string ⟨(wf [] ((pds ps).take k) a).toArray⟩ ∧ iv = .int .i64 k ∧ w' = wr) (fun _ iv _ => ps.length - (intOf iv).toNat)
          case atStart => exact ⟨0, by omega, rfl, rfl, rfl⟩
          case round =>
            obtain ⟨k, hk, rfl, rfl, rfl⟩ := hrel
            obtain ⟨n1, n2, n3, n4⟩ := FP.out _ (SatL.tail hs)
            by_cases hlt14 : k < ps.length
            · have hp : ps[k]? = some ps[k] := List.getElem?_eq_getElem hlt14
              obtain ⟨b, bo, rfl, _⟩ := n3.1.1.at (by omega)
              obtain ⟨k1, k2⟩ := RdPts.cell2 n3.1 hp
              obtain ⟨va', vc', hv, i1, i2⟩ := n3.1.2 _ (List.getElem_mem hlt14)
              have hcv := RdB.conv (n3.2 _ (List.getElem_mem hlt14))
              rw [hv] at k2 hcv
              have hsn : wf [] ((pds ps).take (k + 1)) a = if ps[k].b = a then ps[k].d else wf [] ((pds ps).take k) a := by
                rw [List.take_add_one, pds_get hp]; exact wf_snoc _ _ _ _
              have hkz : (k : Int) < ps.length := by omega
              generalize ps[k].b = kb at *
              generalize ps[k].d = kd at *
              clear hp hv n3 n4
              by_cases hba : kb = (a : Int)
              · have E := hid (hsn.trans (if_pos hba))
                clear hsn
                go_wp2
                go_roundw
                case rel => exact ⟨k + 1, by omega, by rw [E.out], by go_num, trivial⟩
                case measure => simp [intOf]; omega
              · have E := hid (hsn.trans (if_neg hba))
                clear hsn
                go_wp2
                go_roundw
                case rel => exact ⟨k + 1, by omega, by rw [E.out], by go_num, trivial⟩
                case measure => simp [intOf]; omega
            · obtain rfl : k = ps.length := by omega
              have et : (pds ps).take ps.length = P := by rw [List.take_of_length_le (by rw [pds_len]; omega)]; exact Hps.out
              rw [et]
              clear et
              go_wp2
              go_loopw [13, 15] (fun sv iv w' => ∃ k : Nat, k ≤ qs.length ∧ sv = .string ⟨(wf (wf [] P a) ((pds qs).take k) a).toArray⟩ ∧ iv = .int .i64 k ∧ w' = wr) (fun _ iv _ => qs.length - (intOf iv).toNat)
              case atStart => exact ⟨0, by omega, rfl, rfl, rfl⟩
              case round =>
                obtain ⟨k, hk, rfl, rfl, rfl⟩ := hrel
                obtain ⟨n1, n2, n3, n4⟩ := FP.out _ (SatL.tail hs)
                by_cases hlt15 : k < qs.length
                · have hp : qs[k]? = some qs[k] := List.getElem?_eq_getElem hlt15
                  obtain ⟨b, bo, rfl, _⟩ := n4.1.1.at (by omega)
                  obtain ⟨k1, k2⟩ := RdPts.cell2 n4.1 hp
                  obtain ⟨va', vc', hv, i1, i2⟩ := n4.1.2 _ (List.getElem_mem hlt15)
                  have hcv := RdB.conv (n4.2 _ (List.getElem_mem hlt15))
                  rw [hv] at k2 hcv
                  have hsn : wf (wf [] P a) ((pds qs).take (k + 1)) a = if qs[k].b = a then qs[k].d else wf (wf [] P a) ((pds qs).take k) a := by
                    rw [List.take_add_one, pds_get hp]; exact wf_snoc _ _ _ _
                  have hkz : (k : Int) < qs.length := by omega
                  generalize qs[k].b = kb at *
                  generalize qs[k].d = kd at *
                  clear hp hv n3 n4
                  by_cases hba : kb = (a : Int)
                  · have E := hid (hsn.trans (if_pos hba))
                    clear hsn
                    go_wp2
                    go_roundw
                    case rel => exact ⟨k + 1, by omega, by rw [E.out], by go_num, trivial⟩
                    case measure => simp [intOf]; omega
                  · have E := hid (hsn.trans (if_neg hba))
                    clear hsn
                    go_wp2
                    go_roundw
                    case rel => exact ⟨k + 1, by omega, by rw [E.out], by go_num, trivial⟩
                    case measure => simp [intOf]; omega
                · obtain rfl : k = qs.length := by omega
                  have et : (pds qs).take qs.length = Q := by rw [List.take_of_length_le (by rw [pds_len]; omega)]; exact Hqs.out
                  rw [et]
                  clear et
                  have hfi := find_ok (b := (a : Int)) hs
                  rw [show ((fB P Q).at 1).find a = (gfind Q a).or (gfind P a) from rfl] at hfi
                  have hwb := wf_both OkP.out.1 OkQ.out.1 a
                  have hd512 : ∀ d, (gfind Q a).or (gfind P a) = some d → d.length = 512 := by
                    intro d hd
                    cases hq : gfind Q a with
                    | some x =>
                      rw [hq] at hd
                      injection hd with hd
                      subst hd
                      obtain ⟨p, hp, rfl⟩ := gfind_mem hq
                      exact (grp_fit OkQ.out lnQ).2.2 p hp
                    | none =>
                      rw [hq, Option.none_or] at hd
                      obtain ⟨p, hp, rfl⟩ := gfind_mem hd
                      exact (grp_fit OkP.out lnP).2.2 p hp
                  rw [hwb]
                  clear hwb fr m1 m2 hs
                  generalize (gfind Q a).or (gfind P a) = FF at *
                  cases FF with
                  | none =>
                    simp only [Option.getD_none, Option.isSome_none] at hfi ⊢
                    go_wp2_with (go_at_call 28; (with_reducible refine hfi.mono ?_); rintro e w2 ⟨r, rfl, fv, rfl, g1⟩; obtain ⟨xa, xc, rfl, _, _⟩ := Sl.valn g1 (m := 0) rfl; have hcv := RdB.conv (SlB.rd g1))
                    have g0 := SatL.tail g1
                    clear g1 hcv
                    go_loopw [18] (fun iv wr => iv = .int .i64 0 ∧ SatL wr (LogR pb ((fB P Q).at 1) :: R)) (fun _ _ => 0)
                    case atStart => exact ⟨rfl, g0⟩
                    case round =>
                      clear g0
                      obtain ⟨rfl, g3⟩ := hrel
                      go_wp2
                      go_roundw
                      case rel => exact ⟨a + 1, by omega, by omega, by go_num, g3⟩
                      case measure => simp [intOf]; omega
                  | some dd =>
                    have hdl := hd512 dd rfl
                    simp only [Option.getD_some, Option.isSome_some] at hfi ⊢
                    have hne : dd ≠ [] := by intro e; rw [e] at hdl; simp at hdl
                    have hne2 := str_ne hne
                    have hne3 := str_neL hne
                    have hne4 : dd.isEmpty = false := by
                      cases dd with
                      | nil => exact absurd rfl hne
                      | cons _ _ => rfl
                    have Hdl := hid hdl
                    clear hdl hd512
                    go_wp2_with (go_at_call 28; (with_reducible refine hfi.mono ?_); rintro e w2 ⟨r, rfl, fv, rfl, g1⟩; obtain ⟨xa, xc, rfl, _, _⟩ := Sl.valn g1 (m := 512) (by rw [bvs_len]; exact Hdl.out); have hcv := RdB.conv (SlB.rd g1))
                    have g0 : ∃ bs : List UInt8, bs.length = 512 ∧ SatL w2 (SlB 5 (.slice xa 512 xc) bs :: LogR pb ((fB P Q).at 1) :: R) := ⟨_, Hdl.out, g1⟩
                    clear g1 hcv
                    go_loopw [18] (fun iv wr => ∃ (i : Nat) (bs : List UInt8), i ≤ 512 ∧ bs.length = 512 ∧ iv = .int .i64 i ∧ SatL wr (SlB 5 (.slice xa 512 xc) bs :: LogR pb ((fB P Q).at 1) :: R)) (fun iv _ => 512 - (intOf iv).toNat)
                    case atStart =>
                      obtain ⟨bs, hb, g2⟩ := g0
                      exact ⟨0, bs, by omega, hb, rfl, g2⟩
                    case round =>
                      clear g0
                      obtain ⟨i, bs, hi, hbl, rfl, g2⟩ := hrel
                      by_cases hin : i < 512
                      · obtain ⟨xb, xo, rfl⟩ := Sl.addr g2 (by omega)
                        have hx : i < (bvs bs).length := by rw [bvs_len]; omega
                        have y1 := Sl.cell g2 (i := i) (List.getElem?_eq_getElem hx)
                        have y2 := Sl.free g2 (xo + i)
                        have g3 := Sl.set g2 hx (.int .u8 238)
                        have e5 : (bvs bs).set i (.int .u8 238) = bvs (bs.set i 238) := by rw [bvs, bvs, List.map_set]; rfl
                        rw [e5] at g3
                        have hiz : (i : Int) < 512 := by omega
                        have Hbl := hid hbl
                        generalize (bvs bs)[i] = yy at *
                        clear e5 g2 hbl hx
                        go_wp2
                        go_roundw
                        case rel => exact ⟨i + 1, _, by omega, by rw [List.length_set]; exact Hbl.out, by go_num, g3⟩
                        case measure => simp [intOf]; omega
                      · have hiz : ¬ (i : Int) < 512 := by omega
                        have g3 := SatL.tail g2
                        clear g2 hbl
                        go_wp2
                        go_roundw
                        case rel => exact ⟨a + 1, by omega, by omega, by go_num, g3⟩
                        case measure => simp [intOf]; omega
        · have haz : ¬ (a : Int) < 100 := by omega
          go_wp2
          go_loopw [19] (fun iv wr => ∃ t : Int, (t = 0 ∨ t = 1 ∨ t = 2) ∧ iv = .int .i64 t ∧ SatL wr (LogR pb (if t = 0 then (fB P Q).at 1 else if t = 1 then (fC Q).at 1 else (fC Q).at 9) :: R)) (fun iv _ => 2 - (intOf iv).toNat)
          case atStart => exact ⟨0, .inl rfl, rfl, hs⟩
          case round =>
            clear hs
            obtain ⟨t, ht, rfl, hs⟩ := hrel
            rcases ht with rfl | rfl | rfl
            · rw [if_pos rfl] at hs
              go_wp2
              go_loopw [173] (fun _ wr => ∃ p : Nat, 1 ≤ p ∧ p ≤ 9 ∧ SatL wr (LogR pb ((fB P Q).at p) :: R)) (fun _ wr => phm pb wr)
              case atStart => exact ⟨1, by omega, by omega, hs⟩
              case round =>
                obtain ⟨p, hp1, hp9, hq⟩ := hrel
                have hpm := LogR.phm hq
                by_cases hp8 : p ≤ 8
                · have eph := at_phase (fB P Q) ⟨hp1, hp8⟩
                  have hph := phase_ok hq
                  rw [eph] at hph hpm
                  have hwa := fun (w' : World) (h : SatL w' (LogR pb ((fB P Q).at p) :: R)) => want_at RB.out ⟨hp1, hp8⟩ h
                  have hdi := fun (w' : World) (L : List HP) (h : SatL w' (LogR pb ((fB P Q).at p).wanted :: L)) => did_at RB.out ⟨hp1, hp8⟩ h
                  have hpz : ¬ (p : Int) = 0 := by omega
                  have Hpm := hid hpm
                  clear hpm eph
                  go_wp2_with (first
                    | (go_at_call 27; (with_reducible refine hph.mono ?_); rintro e w2 ⟨r, rfl, rfl, g1⟩; have hwa' := hwa _ g1)
                    | (go_at_call 30; (with_reducible refine hwa'.mono ?_); rintro e w3 ⟨r, rfl, g2⟩; obtain ⟨qa, qc, rfl, _, _⟩ := ReqsL.valn g2; have g3 := hdi _ _ (SatL.swap g2))
                    | (go_at_call 29; (with_reducible refine g3.mono ?_); rintro e w4 ⟨r, rfl, rfl, g4⟩))
                  have g5 := SatL.tail g4.swap
                  have hpm2 := LogR.phm g5
                  go_roundw
                  case rel => exact ⟨p + 1, by omega, by omega, g5⟩
                  case measure =>
                    rw [hpm2, Hpm.out]
                    rcases Nat.lt_or_ge p 8 with h8 | h8
                    · rw [at_phase (fB P Q) ⟨by omega, by omega⟩]
                      rw [if_neg (by omega), if_neg (by omega)]; omega
                    · obtain rfl : p = 8 := by omega
                      rw [show ((fB P Q).at (8 + 1)).phase = 0 from rfl]; simp
                · obtain rfl : p = 9 := by omega
                  have hph := phase_ok hq
                  rw [show ((fB P Q).at 9).phase = 0 from rfl] at hph
                  rw [show ((0 : Nat) : Int) = 0 from rfl] at hph
                  have hst := start_ok hq (by show (2 : Nat) < _; omega) (by show (0 : Int) ≤ 2 ∧ (2 : Int) ≤ _; omega) (by show (2 : Nat) ≤ _; omega)
                  rw [find_start2 HnQ.out] at hst
                  go_wp2_with (first
                    | (go_at_call 27; (with_reducible refine hph.mono ?_); rintro e w2 ⟨r, rfl, rfl, g1⟩; have hst2 := start_ok g1 (by show (2 : Nat) < _; omega) (by show (0 : Int) ≤ 2 ∧ (2 : Int) ≤ _; omega) (by show (2 : Nat) ≤ _; omega); rw [find_start2 HnQ.out] at hst2)
                    | (go_at_call 26; (with_reducible refine hst2.mono ?_); rintro e w3 ⟨r, rfl, rfl, g2⟩))
                  go_roundw
                  case rel => exact ⟨1, .inr (.inl rfl), by go_num, by rw [if_neg (by omega), if_pos rfl]; exact g2⟩
                  case measure => simp [intOf]
            · rw [if_neg (by omega), if_pos rfl] at hs
              go_wp2
              go_loopw [173] (fun _ wr => ∃ p : Nat, 1 ≤ p ∧ p ≤ 9 ∧ SatL wr (LogR pb ((fC Q).at p) :: R)) (fun _ wr => phm pb wr)
              case atStart => exact ⟨1, by omega, by omega, hs⟩
              case round =>
                obtain ⟨p, hp1, hp9, hq⟩ := hrel
                have hpm := LogR.phm hq
                by_cases hp8 : p ≤ 8
                · have eph := at_phase (fC Q) ⟨hp1, hp8⟩
                  have hph := phase_ok hq
                  rw [eph] at hph hpm
                  have hwa := fun (w' : World) (h : SatL w' (LogR pb ((fC Q).at p) :: R)) => want_at RC.out ⟨hp1, hp8⟩ h
                  have hdi := fun (w' : World) (L : List HP) (h : SatL w' (LogR pb ((fC Q).at p).wanted :: L)) => did_at RC.out ⟨hp1, hp8⟩ h
                  have hpz : ¬ (p : Int) = 0 := by omega
                  have Hpm := hid hpm
                  clear hpm eph
                  go_wp2_with (first
                    | (go_at_call 27; (with_reducible refine hph.mono ?_); rintro e w2 ⟨r, rfl, rfl, g1⟩; have hwa' := hwa _ g1)
                    | (go_at_call 30; (with_reducible refine hwa'.mono ?_); rintro e w3 ⟨r, rfl, g2⟩; obtain ⟨qa, qc, rfl, _, _⟩ := ReqsL.valn g2; have g3 := hdi _ _ (SatL.swap g2))
                    | (go_at_call 29; (with_reducible refine g3.mono ?_); rintro e w4 ⟨r, rfl, rfl, g4⟩))
                  have g5 := SatL.tail g4.swap
                  have hpm2 := LogR.phm g5
                  go_roundw
                  case rel => exact ⟨p + 1, by omega, by omega, g5⟩
                  case measure =>
                    rw [hpm2, Hpm.out]
                    rcases Nat.lt_or_ge p 8 with h8 | h8
                    · rw [at_phase (fC Q) ⟨by omega, by omega⟩]
                      rw [if_neg (by omega), if_neg (by omega)]; omega
                    · obtain rfl : p = 8 := by omega
                      rw [show ((fC Q).at (8 + 1)).phase = 0 from rfl]; simp
                · obtain rfl : p = 9 := by omega
                  have hph := phase_ok hq
                  rw [show ((fC Q).at 9).phase = 0 from rfl] at hph
                  rw [show ((0 : Nat) : Int) = 0 from rfl] at hph
                  go_wp2_with (go_at_call 27; (with_reducible refine hph.mono ?_); rintro e w2 ⟨r, rfl, rfl, g1⟩)
                  go_roundw
                  case rel => exact ⟨2, .inr (.inr rfl), by go_num, by rw [if_neg (by omega), if_neg (by omega)]; exact g1⟩
                  case measure => simp [intOf]
            · rw [if_neg (by omega), if_neg (by omega)] at hs
              obtain ⟨n1, n2, n3, n4⟩ := FP.out _ (SatL.tail hs)
              have zP : 0 < ps.length := by
                have h1 := congrArg List.length Hps.out
                rw [List.length_map] at h1
                have := List.length_pos_iff.2 HnP.out
                omega
              have zQ : 0 < qs.length := by
                have h1 := congrArg List.length Hqs.out
                rw [List.length_map] at h1
                have := List.length_pos_iff.2 HnQ.out
                omega
              have gp : ps[0]? = some ps[0] := List.getElem?_eq_getElem zP
              have gq : qs[0]? = some qs[0] := List.getElem?_eq_getElem zQ
              obtain ⟨pb1, po1, rfl, _⟩ := n3.1.1.at zP
              obtain ⟨qb1, qo1, rfl, _⟩ := n4.1.1.at zQ
              have kq := (RdPts.cell2 n4.1 gq).1
              rw [Nat.zero_mul, Nat.add_zero] at kq
              have zPi : (0 : Int) < ps.length := by omega
              have zQi : (0 : Int) < qs.length := by omega
              have hf1 := find_ok (b := qs[0].b) hs
              rw [show ((fC Q).at 9).find qs[0].b = none from rfl] at hf1
              have hcell := fun (w' : World) (h : SatL w' R) => (RdPts.cell2 (FP.out w' h).2.2.1.1 gp).1
              have hcg := fun (w' : World) (h : SatL w' R) => (FP.out w' h).1
              simp only [Nat.zero_mul, Nat.add_zero] at hcell
              have hf2 := fun (w' : World) (h : SatL w' (LogR pb ((fC Q).at 9) :: R)) => find_ok (b := ps[0].b) h
              simp only [show ((fC Q).at 9).find ps[0].b = none from rfl] at hf2
              have hdu := fun (w' : World) (h : SatL w' (LogR pb ((fC Q).at 9) :: R)) => durable_ok h
              simp only [show ((fC Q).at 9).durable = 2 from rfl, show ((2 : Nat) : Int) = 2 from rfl] at hdu
              simp only [Option.isSome_none, Option.getD_none] at hf1 hf2
              generalize ps[0].b = kp at *
              generalize qs[0].b = kb at *
              clear gp gq
              have t1 : True := trivial
              go_wp2_with (first
                | (have _t := t1; go_at_call 28; (with_reducible refine hf1.mono ?_); rintro e w2 ⟨r, rfl, fv, rfl, g1⟩; clear t1; have g2 := SatL.tail g1; have y1 := hcg _ g2.tail; have y2 := hcell _ g2.tail; have hf2' := hf2 _ g2; have t2 : True := trivial)
                | (have _t := t2; go_at_call 28; (with_reducible refine hf2'.mono ?_); rintro e w3 ⟨r, rfl, fv2, rfl, g3⟩; clear t2; have g4 := SatL.tail g3; have hdu' := hdu _ g4)
                | (go_at_call 31; (with_reducible refine hdu'.mono ?_); rintro e w4 ⟨r, rfl, rfl, g5⟩))
              go_ret
              exact ⟨_, rfl, rfl, FO.out _ g5.tail⟩
end Go.Proofs.Ytjjnadlklfegcaa
