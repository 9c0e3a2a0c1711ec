/- WalOrder: for every input the law returns true, and each argument reads behind the call as it read before. No condition. -/
import Derived.Test.YtjjnadlklfegcaaRows
import Derived.Test.YtjjnadlklfegcaaLawOrder
import Derived.Test.YtjjnadlklfegcaaArg
import Derived.WalkKit
import Derived.ProofKit
import Derived.OpenShut
import Derived.ShutString
import Derived.ChangeOld
import Derived.Below
namespace Go.Proofs.Ytjjnadlklfegcaa.walOrder
open Go.ChangeShapes Go.WideShapes Go.ChangeAt Go.RowKit
open Go.ChangeMaps (open_string shut_string)
set_option linter.unusedVariables false
set_option linter.unusedSimpArgs false

theorem own : ownKnob Try.prog.godebug = none := by kernel_rfl
theorem laidOut : laidOutB Try.prog = true := by kernel_rfl

set_option maxRecDepth 100000 in
theorem walk (w : World) (a0 : Option Addr) (len0 cap0 : Nat) (r0 : Rd Try.prog w 23 (Value.slice a0 len0 cap0).cells.toList) (a1 : Int) (w1 : (Lit.int .i64 a1).wf = true) :
    Calls Try.prog 9 #[.slice a0 len0 cap0, .int .i64 a1] w fun e w' => e = .returned (.bool true) ∧ Below w.heap.size w w' := by
  have blk : ∀ (a : Option Addr) (n c : Nat), Rd Try.prog w 23 (Value.slice a n c).cells.toList → ∃ (A S : Nat → Int) (B : Nat → Nat), BlkRow a n A S B w ∧ ∀ i, B i < 256 := by
    intro a n c r
    obtain ⟨V, hrow, hV⟩ := Rd.row (k := 3) Try.underlying23 (by kernel_rfl) (by omega) r
    have hb : ∀ i, ∃ (x : Int × Int × Nat), (i < n → V i = [.int .i64 x.1, .int .i64 x.2.1, .int .u8 (x.2.2 : Int)]) ∧ x.2.2 < 256 := by
      intro i
      by_cases hi : i < n
      · obtain ⟨hl, hf⟩ := Rd.struct Try.underlying59 (hV i hi)
        obtain ⟨x, hx, _⟩ := Rd.int Try.underlying3 (hf 0 _ rfl)
        obtain ⟨y, hy, _⟩ := Rd.int Try.underlying3 (hf 1 _ rfl)
        obtain ⟨z, hz, hz1, hz2⟩ := Rd.int Try.underlying5 (hf 2 _ rfl)
        have hz0 : 0 ≤ z := hz1
        have hz3 : z ≤ 255 := hz2
        refine ⟨(x, y, z.toNat), fun _ => ?_, by show z.toNat < 256; omega⟩
        have e : ((z.toNat : Nat) : Int) = z := Int.toNat_of_nonneg hz0
        rw [e]
        exact list3 hl hx hy hz
      · exact ⟨(0, 0, 0), fun h => absurd h hi, by show 0 < 256; omega⟩
    exact ⟨fun i => (Classical.choose (hb i)).1, fun i => (Classical.choose (hb i)).2.1, fun i => (Classical.choose (hb i)).2.2, hrow.congr (fun i hi => (Classical.choose_spec (hb i)).1 hi), fun i => (Classical.choose_spec (hb i)).2⟩
  obtain ⟨A0, S0, B0, hC0, hB0⟩ := blk a0 len0 cap0 r0
  refine (order_walk a0 len0 cap0 A0 S0 B0 a1 w hC0 hB0).mono ?_
  rintro e w' ⟨v, rfl, rfl, hs⟩
  exact ⟨rfl, hs.below⟩

set_option maxRecDepth 100000 in
theorem lifted (os : Os) (started : os.Started) (H : Type) (enc : TypeId × Value → H) :
    ReturnsInHanded {} Try.checked os 9 .any (Rows.walOrderSpec.pre6 enc Try.prog Try.f9 Rows.walOrderRow.domain false) (Rows.walOrderSpec.post enc Try.prog Try.f9 false true false false) := by
  refine returnsInHanded_of_change (C := Try.checked) own started (by kernel_rfl) Try.func9
    (ChangeSpec.witness6 (enc := enc) (C := Try.checked) false ⟨#[], #[.slice none 0 0, .int .i64 0], []⟩ 8 (by kernel_rfl) (by kernel_rfl) (by kernel_rfl) (by kernel_rfl)) ?_
  intro W base args ds gs before hval0 hW hcnd _
  have hval : ∀ (j : Nat) t v, Try.f9.params[j]? = some t → args[j]? = some v → Value.okWide Try.prog W .any base t v := hval0
  have hW' := hW
  obtain ⟨p, q, hA0, hV, rfl, hfz, hnd⟩ := hW
  have hA : DataW.TrodAll enc Try.prog W 0 (fun _ => true) true Try.f9.params.toList args.toList ds p := hA0
  rw [Try.params9] at hA hval
  obtain ⟨v0, vs0, d0, ds0, p0, q0, hargs, rfl, rfl, h0, r0⟩ := trodAll_cons hA
  obtain ⟨v1, vs1, d1, ds1, p1, q1, rfl, rfl, rfl, h1, r1⟩ := trodAll_cons r0
  obtain ⟨rfl, rfl, rfl⟩ := trodAll_nil r1
  obtain rfl : args = #[v0, v1] := by cases args; simp_all
  obtain ⟨rfl, rfl⟩ := trodVars_none hV
  have kk0 := h0
  have lt0 : ∀ x ∈ p0, x.block < W.heap.size := by obtain ⟨m, hm⟩ := kk0; exact DataW.trod_lt m _ _ _ hm
  obtain ⟨a0, len0, cap0, rfl⟩ := okWide_slice Try.underlying23 (hval 0 23 v0 rfl rfl)
  obtain ⟨a1, rfl, rfl, rfl, w1⟩ := open_int Try.underlying3 (hval 1 3 v1 rfl rfl) h1
  clear hA0 hval0
  refine (walk W a0 len0 cap0 (Rd.of kk0) a1 w1).mono fun e W' ⟨he, bel⟩ => ?_
  subst he
  exact ⟨_, rfl, _, _, _, [], _, [], hW', trodAll_mk1 (shut_bool Try.underlying4 _), (trodAll_cons_mk (Below.trod laidOut (by kernel_rfl) (of_decide_eq_true (by kernel_rfl)) kk0 bel lt0) (trodAll_cons_mk (shut_int Try.underlying3 w1) trodAll_mk0)), rfl, bel.frame _, fun h => by cases h⟩

theorem over : Rows.walOrderRow.holds Try.pinned (OpenSpec.ofChange Rows.walOrderSpec) :=
  OpenClaim.holds_of_wide 9 Try.f9 rfl rfl rfl rfl rfl rfl rfl ⟨rfl, rfl, rfl, rfl, rfl⟩ rfl rfl rfl rfl rfl (by kernel_rfl) Try.func9 (by kernel_rfl)
    (of_decide_eq_true (by kernel_rfl)) (by unfold Func.isWrapper; first | (rw [if_pos (by decide +kernel)]; kernel_rfl) | (rw [if_neg (by decide +kernel)]; exact ⟨rfl, rfl⟩))
    (fun os started H enc _ => lifted os started H enc)

theorem proved : Rows.WalOrderSaid := over
end Go.Proofs.Ytjjnadlklfegcaa.walOrder
