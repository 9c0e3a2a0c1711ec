/- DiskOwn: for every input the law returns true, and each argument reads behind the call as it read before. No condition. -/
import Derived.Test.YtjjiljijcigekaaRows
import Derived.Test.YtjjiljijcigekaaLawOwn
import Derived.Test.YtjjiljijcigekaaArg
import Derived.WalkKit
import Derived.ProofKit
import Derived.OpenShut
import Derived.ShutString
import Derived.ChangeOld
import Derived.Below
namespace Go.Proofs.Ytjjiljijcigekaa.diskOwn
open Go.ChangeShapes Go.WideShapes Go.ChangeAt Go.RowKit
open Go.ChangeMaps (open_string shut_string)
set_option linter.unusedVariables false
set_option linter.unusedSimpArgs false

theorem own : ownKnob Try.prog.godebug = none := by kernel_rfl
theorem laidOut : laidOutB Try.prog = true := by kernel_rfl

set_option maxRecDepth 100000 in
theorem walk (w : World) (a0 : Option Addr) (len0 cap0 : Nat) (r0 : Rd Try.prog w 22 (Value.slice a0 len0 cap0).cells.toList) :
    Calls Try.prog 3 #[.slice a0 len0 cap0] w fun e w' => e = .returned (.bool true) ∧ Below w.heap.size w w' := by
  obtain ⟨V, hrow, hV⟩ := Rd.row (k := 5) Try.underlying22 (by kernel_rfl) (by omega) r0
  have hc : ∀ i, ∃ (z : Int × Nat), z.2 < 256 ∧ (i < len0 → (V i)[1]? = some (.int .i64 z.1) ∧ (V i)[3]? = some (.int .u8 (z.2 : Int))) := by
    intro i
    by_cases hi : i < len0
    · obtain ⟨hl, hf⟩ := Rd.struct Try.underlying32 (hV i hi)
      obtain ⟨y, hy, _⟩ := Rd.int Try.underlying3 (hf 1 _ rfl)
      obtain ⟨z, hz, hz1, hz2⟩ := Rd.int Try.underlying5 (hf 3 _ rfl)
      have hz0 : 0 ≤ z := hz1
      have hz3 : z ≤ 255 := hz2
      refine ⟨(y, z.toNat), by show z.toNat < 256; omega, fun _ => ⟨take1_get (k := 1) hy, ?_⟩⟩
      have e : ((z.toNat : Nat) : Int) = z := Int.toNat_of_nonneg hz0
      show (V i)[3]? = some (.int .u8 ((z.toNat : Nat) : Int))
      rw [e]
      exact take1_get (k := 3) hz
    · exact ⟨(0, 0), by show 0 < 256; omega, fun h => absurd h hi⟩
  obtain ⟨f, hf⟩ := Classical.axiomOfChoice hc
  refine (own_walk a0 len0 cap0 (fun i => (f i).1) (fun i => (f i).2) w (CRow.of hrow (fun i hi => (hf i).2 hi)) (fun i => (hf i).1)).mono ?_
  rintro e w' ⟨v, rfl, rfl, hs⟩
  exact ⟨rfl, hs.below⟩

set_option maxRecDepth 100000 in
theorem lifted (os : Os) (started : os.Started) (H : Type) (enc : TypeId × Value → H) :
    ReturnsInHanded {} Try.checked os 3 .any (Rows.diskOwnSpec.pre6 enc Try.prog Try.f3 Rows.diskOwnRow.domain false) (Rows.diskOwnSpec.post enc Try.prog Try.f3 false true false false) := by
  refine returnsInHanded_of_change (C := Try.checked) own started (by kernel_rfl) Try.func3
    (ChangeSpec.witness6 (enc := enc) (C := Try.checked) false ⟨#[], #[.slice none 0 0], []⟩ 8 (by kernel_rfl) (by kernel_rfl) (by kernel_rfl) (by kernel_rfl)) ?_
  intro W base args ds gs before hval0 hW hcnd _
  have hval : ∀ (j : Nat) t v, Try.f3.params[j]? = some t → args[j]? = some v → Value.okWide Try.prog W .any base t v := hval0
  have hW' := hW
  obtain ⟨p, q, hA0, hV, rfl, hfz, hnd⟩ := hW
  have hA : DataW.TrodAll enc Try.prog W 0 (fun _ => true) true Try.f3.params.toList args.toList ds p := hA0
  rw [Try.params3] at hA hval
  obtain ⟨v0, vs0, d0, ds0, p0, q0, hargs, rfl, rfl, h0, r0⟩ := trodAll_cons hA
  obtain ⟨rfl, rfl, rfl⟩ := trodAll_nil r0
  obtain rfl : args = #[v0] := by cases args; simp_all
  obtain ⟨rfl, rfl⟩ := trodVars_none hV
  have kk0 := h0
  have lt0 : ∀ x ∈ p0, x.block < W.heap.size := by obtain ⟨m, hm⟩ := kk0; exact DataW.trod_lt m _ _ _ hm
  obtain ⟨a0, len0, cap0, rfl⟩ := okWide_slice Try.underlying22 (hval 0 22 v0 rfl rfl)
  clear hA0 hval0
  refine (walk W a0 len0 cap0 (Rd.of kk0)).mono fun e W' ⟨he, bel⟩ => ?_
  subst he
  exact ⟨_, rfl, _, _, _, [], _, [], hW', trodAll_mk1 (shut_bool Try.underlying4 _), (trodAll_cons_mk (Below.trod laidOut (by kernel_rfl) (of_decide_eq_true (by kernel_rfl)) kk0 bel lt0) trodAll_mk0), rfl, bel.frame _, fun h => by cases h⟩

theorem over : Rows.diskOwnRow.holds Try.pinned (OpenSpec.ofChange Rows.diskOwnSpec) :=
  OpenClaim.holds_of_wide 3 Try.f3 rfl rfl rfl rfl rfl rfl rfl ⟨rfl, rfl, rfl, rfl, rfl⟩ rfl rfl rfl rfl rfl (by kernel_rfl) Try.func3 (by kernel_rfl)
    (of_decide_eq_true (by kernel_rfl)) (by unfold Func.isWrapper; first | (rw [if_pos (by decide +kernel)]; kernel_rfl) | (rw [if_neg (by decide +kernel)]; exact ⟨rfl, rfl⟩))
    (fun os started H enc _ => lifted os started H enc)

theorem proved : Rows.DiskOwnSaid := over
end Go.Proofs.Ytjjiljijcigekaa.diskOwn
