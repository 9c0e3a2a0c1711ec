/- RpcTurns: for every input the law returns true, and each argument reads behind the call as it read before. No condition. -/
import Derived.Test.YtpecmkkcepnpeaaDoorRows
import Derived.Test.YtpecmkkcepnpeaaDoorLawTurn17
import Derived.Test.YtpecmkkcepnpeaaDoorArg
import Derived.WalkKit
import Derived.ProofKit
import Derived.OpenShut
import Derived.ShutString
import Derived.ChangeOld
import Derived.Below
import Derived.SizedLaws
import Derived.Test.YtpecmkkcepnpeaaDoorTied
import Derived.Test.YtpecmkkcepnpeaaDoorCards
import Derived.Test.YtpecmkkcepnpeaaDoorTie
import Derived.SevenTiedAt
namespace Go.Proofs.YtpecmkkcepnpeaaDoor.rpcTurns
open Go.ChangeShapes Go.WideShapes Go.ChangeAt Go.RowKit
open Go.ChangeMaps (open_string shut_string)
set_option linter.unusedVariables false
set_option linter.unusedSimpArgs false

theorem own : ownKnob Tryd.prog.godebug = none := by kernel_rfl
theorem laidOut : laidOutB Tryd.prog = true := by kernel_rfl

set_option maxRecDepth 100000 in
theorem walk (w : World) (hg0 : HndW w) (a0 : Array Value) (s0 : a0.size = Tryd.prog.cellsOf 30) (r0 : Rd Tryd.prog w 30 (Value.agg a0).cells.toList) (a1 : Option Addr) (len1 cap1 : Nat) (r1 : Rd Tryd.prog w 48 (Value.slice a1 len1 cap1).cells.toList) (a2 : Option Addr) (len2 cap2 : Nat) (r2 : Rd Tryd.prog w 27 (Value.slice a2 len2 cap2).cells.toList) (a3 : Int) (w3 : (Lit.int .i64 a3).wf = true) (a4 : Option Addr) (len4 cap4 : Nat) (r4 : Rd Tryd.prog w 27 (Value.slice a4 len4 cap4).cells.toList) :
    Calls Tryd.prog 11 #[.agg a0, .slice a1 len1 cap1, .slice a2 len2 cap2, .int .i64 a3, .slice a4 len4 cap4] w fun e w' => e = .returned (.bool true) ∧ Below w.heap.size w w' := by
  obtain ⟨xi, pr, ve, po, ui, gi, gv, bv, gs, bo, hcs, hc, hgs, hg, hb, _, _⟩ := Rd.call r0
  have e0 : (Value.agg a0).cells.toList = a0.toList := rfl
  rw [e0] at hcs
  obtain rfl : a0 = #[.int .u32 (xi : Int), .int .u32 (pr : Int), .int .u32 (ve : Int), .int .u32 (po : Int), .int .u32 (ui : Int), .int .u32 (gi : Int), gv, bv] := Array.toList_inj.1 hcs
  have ints : ∀ (a : Option Addr) (n c : Nat), Rd Tryd.prog w 48 (Value.slice a n c).cells.toList → ∃ A : Nat → Int, TurnInts a n A w := by
    intro a n c r
    obtain ⟨A, hA, _⟩ := Rd.ints Tryd.underlying48 Tryd.underlying3 (by kernel_rfl) r
    refine ⟨A, hA.1, fun h0 => ?_⟩
    obtain ⟨b, o, e, hc⟩ := hA.2 h0
    refine ⟨b, o, e, fun i hi => ?_⟩
    have := (hc i hi).2 0 (.int .i64 (A i)) rfl
    rwa [Nat.mul_one, Nat.add_zero] at this
  obtain ⟨A, hA⟩ := ints a1 len1 cap1 r1
  obtain ⟨v, body, hv, hrv, _⟩ := Rd.u8s r2
  obtain rfl : Value.slice a2 len2 cap2 = v := by simpa [Value.cells] using hv
  obtain ⟨v4, b4, hv4, hrv4, _⟩ := Rd.u8s r4
  obtain rfl : Value.slice a4 len4 cap4 = v4 := by simpa [Value.cells] using hv4
  refine (turns_walk (c := ⟨xi, pr, ve, po, ui, gi, gs, bo⟩) (ac := cap1) (cut := a3) w ⟨hc, hgs⟩ hg hb hA hrv hrv4 hg0).mono ?_
  rintro e w' ⟨v, rfl, rfl, hs⟩
  exact ⟨rfl, hs.below⟩

set_option maxRecDepth 100000 in
theorem lifted (os : Os) (started : os.Started) (H : Type) (enc : TypeId × Value → H) :
    ReturnsInHanded {} Tryd.checked os 11 .any (fun w args => (Rows.rpcTurnsSpec.pre enc Tryd.prog Tryd.f11 Rows.rpcTurnsRow.domain false w args ∧ laidMetH Tryd.prog laid17 w) ∧ sizedMet enc Tryd.prog Tryd.f11 (OpenSpec.ofChange Rows.rpcTurnsSpec) false w args) (Rows.rpcTurnsSpec.post enc Tryd.prog Tryd.f11 false true false false) := by
  refine returnsInHanded_of_change_and (C := Tryd.checked) (X := fun w _ => laidMetH Tryd.prog laid17 w) (fun _ _ _ hh h => h.of_heap hh) own started (by kernel_rfl) Tryd.func11
    (ChangeSpec.witness_at (enc := enc) (C := Tryd.checked) (os := os) (X := fun w _ => laidMetH Tryd.prog laid17 w) false (laidWorld17 os) #[.agg #[.int .u32 0, .int .u32 0, .int .u32 0, .int .u32 0, .int .u32 0, .int .u32 0, .slice none 0 0, .slice none 0 0], .slice none 0 0, .slice none 0 0, .int .i64 0, .slice none 0 0] 8 rfl (by kernel_rfl) (by kernel_rfl) (by kernel_rfl) (by kernel_rfl) (by kernel_rfl) (laidWorld17_met os _)) ?_
  intro W base args ds gs before hval0 hW hcnd hsz0 hLd _
  have hval : ∀ (j : Nat) t v, Tryd.f11.params[j]? = some t → args[j]? = some v → Value.okWide Tryd.prog W .any base t v := hval0
  have hW' := hW
  obtain ⟨p, q, hA0, hV, rfl, hfz, hnd⟩ := hW
  have hA : DataW.TrodAll enc Tryd.prog W 0 (fun _ => true) true Tryd.f11.params.toList args.toList ds p := hA0
  have hsz : (DataW.weightsEach Tryd.prog (Tryd.f11.params.toList ++ Rows.rpcTurnsSpec.plain.varTypes Tryd.prog) (ds ++ gs)).all (· ≤ reachBytes) = true := hsz0
  rw [Tryd.params11] at hA hval hsz
  obtain ⟨v0, vs0, d0, ds0, p0, q0, hargs, rfl, rfl, h0, r0⟩ := trodAll_cons hA
  obtain ⟨v1, vs1, d1, ds1, p1, q1, rfl, rfl, rfl, h1, r1⟩ := trodAll_cons r0
  obtain ⟨v2, vs2, d2, ds2, p2, q2, rfl, rfl, rfl, h2, r2⟩ := trodAll_cons r1
  obtain ⟨v3, vs3, d3, ds3, p3, q3, rfl, rfl, rfl, h3, r3⟩ := trodAll_cons r2
  obtain ⟨v4, vs4, d4, ds4, p4, q4, rfl, rfl, rfl, h4, r4⟩ := trodAll_cons r3
  obtain ⟨rfl, rfl, rfl⟩ := trodAll_nil r4
  obtain rfl : args = #[v0, v1, v2, v3, v4] := by cases args; simp_all
  obtain ⟨rfl, rfl⟩ := trodVars_none hV
  have kk0 := h0
  have lt0 : ∀ x ∈ p0, x.block < W.heap.size := by obtain ⟨m, hm⟩ := kk0; exact DataW.trod_lt m _ _ _ hm
  obtain ⟨a0, rfl, s0⟩ := okWide_struct Tryd.underlying30 (hval 0 30 v0 rfl rfl)
  have kk1 := h1
  have lt1 : ∀ x ∈ p1, x.block < W.heap.size := by obtain ⟨m, hm⟩ := kk1; exact DataW.trod_lt m _ _ _ hm
  obtain ⟨a1, len1, cap1, rfl⟩ := okWide_slice Tryd.underlying48 (hval 1 48 v1 rfl rfl)
  have kk2 := h2
  have lt2 : ∀ x ∈ p2, x.block < W.heap.size := by obtain ⟨m, hm⟩ := kk2; exact DataW.trod_lt m _ _ _ hm
  obtain ⟨a2, len2, cap2, rfl⟩ := okWide_slice Tryd.underlying27 (hval 2 27 v2 rfl rfl)
  obtain ⟨a3, rfl, rfl, rfl, w3⟩ := open_int Tryd.underlying3 (hval 3 3 v3 rfl rfl) h3
  have kk4 := h4
  have lt4 : ∀ x ∈ p4, x.block < W.heap.size := by obtain ⟨m, hm⟩ := kk4; exact DataW.trod_lt m _ _ _ hm
  obtain ⟨a4, len4, cap4, rfl⟩ := okWide_slice Tryd.underlying27 (hval 4 27 v4 rfl rfl)
  clear hA0 hval0 hsz0
  refine (walk W (handle17 hLd) a0 s0 (Rd.of kk0 (Rd.sized hsz (j := 0) rfl rfl)) a1 len1 cap1 (Rd.of kk1 (Rd.sized hsz (j := 1) rfl rfl)) a2 len2 cap2 (Rd.of kk2 (Rd.sized hsz (j := 2) rfl rfl)) a3 w3 a4 len4 cap4 (Rd.of kk4 (Rd.sized hsz (j := 4) rfl rfl))).mono fun e W' ⟨he, bel⟩ => ?_
  subst he
  exact ⟨_, rfl, _, _, _, [], _, [], hW', trodAll_mk1 (shut_bool Tryd.underlying4 _), (trodAll_cons_mk (Below.trod laidOut (by kernel_rfl) (of_decide_eq_true (by kernel_rfl)) kk0 bel lt0) (trodAll_cons_mk (Below.trod laidOut (by kernel_rfl) (of_decide_eq_true (by kernel_rfl)) kk1 bel lt1) (trodAll_cons_mk (Below.trod laidOut (by kernel_rfl) (of_decide_eq_true (by kernel_rfl)) kk2 bel lt2) (trodAll_cons_mk (shut_int Tryd.underlying3 w3) (trodAll_cons_mk (Below.trod laidOut (by kernel_rfl) (of_decide_eq_true (by kernel_rfl)) kk4 bel lt4) trodAll_mk0))))), rfl, bel.frame _, fun h => by cases h⟩

theorem over : Rows.rpcTurnsRow.holds Tryd.pinned (OpenSpec.ofChange Rows.rpcTurnsSpec) :=
  OpenClaim.holds_of_wide 11 Tryd.f11 rfl rfl rfl rfl rfl rfl rfl ⟨rfl, rfl, rfl, rfl, rfl⟩ rfl rfl rfl rfl rfl (by kernel_rfl) Tryd.func11 (by kernel_rfl)
    (of_decide_eq_true (by kernel_rfl)) (by unfold Func.isWrapper; first | (rw [if_pos (by decide +kernel)]; kernel_rfl) | (rw [if_neg (by decide +kernel)]; exact ⟨rfl, rfl⟩))
    (fun os started H enc _ => lifted os started H enc)


theorem card_holds : Rows.RpcTurnsCardSaid :=
  Claim7.holds_tied_plain_at .later [] [.handle] true (true, "27f8bec1b393e9d14fb8a0a73cee8d34c79530ed32637a0f47607db901d6d671") true
    over (fun _ h => by cases h) (by kernel_rfl) (fun _ h => by cases h) rpcTurns_row_tie rfl ⟨rfl, rfl⟩ (by kernel_rfl) rfl
    (fun f fn hf hfn => by
      obtain rfl : f = 11 := Option.some.inj ((show Tryd.prog.funcNamed "undercroft/undercroftlaw17.RpcTurns" = some 11 by kernel_rfl).symm.trans hf) |>.symm
      obtain rfl : fn = Tryd.f11 := (Option.some.inj (Tryd.func11.symm.trans hfn)).symm
      exact ⟨by kernel_rfl, fun j t ht => by
        rw [Tryd.params11] at ht
        have h3 : (#[30, 48, 27, 3, 27] : Array Nat).all (fun t => Tryd.prog.wantsStandIn t == false) = true := by kernel_rfl
        obtain ⟨hj, e⟩ := Array.getElem?_eq_some_iff.1 ht
        have := (Array.all_eq_true.1 h3) j hj
        rw [e] at this
        exact (show Tryd.prog.wantsStandIn t = false by simpa using this)⟩)
    (by kernel_rfl)

theorem proved : Rows.RpcTurnsCardSaid := card_holds
end Go.Proofs.YtpecmkkcepnpeaaDoor.rpcTurns
