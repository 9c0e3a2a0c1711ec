/- RpcRecords: for every input the law returns true, and each argument reads behind the call as it read before. No condition. -/
import Derived.Test.YtpecmkkcepnpeaaDoorRows
import Derived.Test.YtpecmkkcepnpeaaDoorLawRec17
import Derived.Test.YtpecmkkcepnpeaaDoorArg
import Derived.WalkKit
import Derived.ProofKit
import Derived.OpenShut
import Derived.ShutString
import Derived.ChangeOld
import Derived.Below
import Derived.SizedLaws
import Derived.Test.YtpecmkkcepnpeaaDoorTied
import Derived.Test.YtpecmkkcepnpeaaDoorCards
import Derived.Test.YtpecmkkcepnpeaaDoorTie
import Derived.SevenTiedAt
namespace Go.Proofs.YtpecmkkcepnpeaaDoor.rpcRecords
open Go.ChangeShapes Go.WideShapes Go.ChangeAt Go.RowKit
open Go.ChangeMaps (open_string shut_string)
set_option linter.unusedVariables false
set_option linter.unusedSimpArgs false

theorem own : ownKnob Tryd.prog.godebug = none := by kernel_rfl
theorem laidOut : laidOutB Tryd.prog = true := by kernel_rfl

set_option maxRecDepth 100000 in
theorem walk (w : World) (hg0 : HndW w) (a0 : Option Addr) (len0 cap0 : Nat) (r0 : Rd Tryd.prog w 36 (Value.slice a0 len0 cap0).cells.toList) :
    Calls Tryd.prog 4 #[.slice a0 len0 cap0] w fun e w' => e = .returned (.bool true) ∧ Below w.heap.size w w' := by
  obtain ⟨V, hrow, hV⟩ := Rd.row (k := 1) Tryd.underlying36 (by kernel_rfl) (by omega) r0
  have hz : ∀ i, ∃ z : Value × List UInt8, i < len0 → V i = [z.1] ∧ RdV z.1 z.2 w := by
    intro i
    by_cases hi : i < len0
    · obtain ⟨v, bs, hv, hr, _⟩ := Rd.u8s (hV i hi)
      exact ⟨(v, bs), fun _ => ⟨hv, hr⟩⟩
    · exact ⟨(.slice none 0 0, []), fun h => absurd h hi⟩
  obtain ⟨f, hf⟩ := Classical.axiomOfChoice hz
  have hl : InRows a0 len0 (fun i => (f i).1) (fun i => (f i).2) w := by
    refine ⟨hrow.1, fun h0 => ?_, fun i hi => (hf i hi).2⟩
    obtain ⟨b, o, e, hc⟩ := hrow.2 h0
    refine ⟨b, o, e, fun i hi => ?_⟩
    have := (hc i hi).2 0 (f i).1 (by rw [(hf i hi).1]; rfl)
    rwa [Nat.mul_one, Nat.add_zero] at this
  refine (records_walk (lc := cap0) w hl hg0).mono ?_
  rintro e w' ⟨v, rfl, rfl, hs⟩
  exact ⟨rfl, hs.below⟩

set_option maxRecDepth 100000 in
theorem lifted (os : Os) (started : os.Started) (H : Type) (enc : TypeId × Value → H) :
    ReturnsInHanded {} Tryd.checked os 4 .any (fun w args => (Rows.rpcRecordsSpec.pre enc Tryd.prog Tryd.f4 Rows.rpcRecordsRow.domain false w args ∧ laidMetH Tryd.prog laid17 w) ∧ sizedMet enc Tryd.prog Tryd.f4 (OpenSpec.ofChange Rows.rpcRecordsSpec) false w args) (Rows.rpcRecordsSpec.post enc Tryd.prog Tryd.f4 false true false false) := by
  refine returnsInHanded_of_change_and (C := Tryd.checked) (X := fun w _ => laidMetH Tryd.prog laid17 w) (fun _ _ _ hh h => h.of_heap hh) own started (by kernel_rfl) Tryd.func4
    (ChangeSpec.witness_at (enc := enc) (C := Tryd.checked) (os := os) (X := fun w _ => laidMetH Tryd.prog laid17 w) false (laidWorld17 os) #[.slice none 0 0] 8 rfl (by kernel_rfl) (by kernel_rfl) (by kernel_rfl) (by kernel_rfl) (by kernel_rfl) (laidWorld17_met os _)) ?_
  intro W base args ds gs before hval0 hW hcnd hsz0 hLd _
  have hval : ∀ (j : Nat) t v, Tryd.f4.params[j]? = some t → args[j]? = some v → Value.okWide Tryd.prog W .any base t v := hval0
  have hW' := hW
  obtain ⟨p, q, hA0, hV, rfl, hfz, hnd⟩ := hW
  have hA : DataW.TrodAll enc Tryd.prog W 0 (fun _ => true) true Tryd.f4.params.toList args.toList ds p := hA0
  have hsz : (DataW.weightsEach Tryd.prog (Tryd.f4.params.toList ++ Rows.rpcRecordsSpec.plain.varTypes Tryd.prog) (ds ++ gs)).all (· ≤ reachBytes) = true := hsz0
  rw [Tryd.params4] at hA hval hsz
  obtain ⟨v0, vs0, d0, ds0, p0, q0, hargs, rfl, rfl, h0, r0⟩ := trodAll_cons hA
  obtain ⟨rfl, rfl, rfl⟩ := trodAll_nil r0
  obtain rfl : args = #[v0] := by cases args; simp_all
  obtain ⟨rfl, rfl⟩ := trodVars_none hV
  have kk0 := h0
  have lt0 : ∀ x ∈ p0, x.block < W.heap.size := by obtain ⟨m, hm⟩ := kk0; exact DataW.trod_lt m _ _ _ hm
  obtain ⟨a0, len0, cap0, rfl⟩ := okWide_slice Tryd.underlying36 (hval 0 36 v0 rfl rfl)
  clear hA0 hval0 hsz0
  refine (walk W (handle17 hLd) a0 len0 cap0 (Rd.of kk0 (Rd.sized hsz (j := 0) rfl rfl))).mono fun e W' ⟨he, bel⟩ => ?_
  subst he
  exact ⟨_, rfl, _, _, _, [], _, [], hW', trodAll_mk1 (shut_bool Tryd.underlying4 _), (trodAll_cons_mk (Below.trod laidOut (by kernel_rfl) (of_decide_eq_true (by kernel_rfl)) kk0 bel lt0) trodAll_mk0), rfl, bel.frame _, fun h => by cases h⟩

theorem over : Rows.rpcRecordsRow.holds Tryd.pinned (OpenSpec.ofChange Rows.rpcRecordsSpec) :=
  OpenClaim.holds_of_wide 4 Tryd.f4 rfl rfl rfl rfl rfl rfl rfl ⟨rfl, rfl, rfl, rfl, rfl⟩ rfl rfl rfl rfl rfl (by kernel_rfl) Tryd.func4 (by kernel_rfl)
    (of_decide_eq_true (by kernel_rfl)) (by unfold Func.isWrapper; first | (rw [if_pos (by decide +kernel)]; kernel_rfl) | (rw [if_neg (by decide +kernel)]; exact ⟨rfl, rfl⟩))
    (fun os started H enc _ => lifted os started H enc)


theorem card_holds : Rows.RpcRecordsCardSaid :=
  Claim7.holds_tied_plain_at .later [] [.handle] true (true, "27f8bec1b393e9d14fb8a0a73cee8d34c79530ed32637a0f47607db901d6d671") true
    over (fun _ h => by cases h) (by kernel_rfl) (fun _ h => by cases h) rpcRecords_row_tie rfl ⟨rfl, rfl⟩ (by kernel_rfl) rfl
    (fun f fn hf hfn => by
      obtain rfl : f = 4 := Option.some.inj ((show Tryd.prog.funcNamed "undercroft/undercroftlaw17.RpcRecords" = some 4 by kernel_rfl).symm.trans hf) |>.symm
      obtain rfl : fn = Tryd.f4 := (Option.some.inj (Tryd.func4.symm.trans hfn)).symm
      exact ⟨by kernel_rfl, fun j t ht => by
        rw [Tryd.params4] at ht
        have h3 : (#[36] : Array Nat).all (fun t => Tryd.prog.wantsStandIn t == false) = true := by kernel_rfl
        obtain ⟨hj, e⟩ := Array.getElem?_eq_some_iff.1 ht
        have := (Array.all_eq_true.1 h3) j hj
        rw [e] at this
        exact (show Tryd.prog.wantsStandIn t = false by simpa using this)⟩)
    (by kernel_rfl)

theorem proved : Rows.RpcRecordsCardSaid := card_holds
end Go.Proofs.YtpecmkkcepnpeaaDoor.rpcRecords
