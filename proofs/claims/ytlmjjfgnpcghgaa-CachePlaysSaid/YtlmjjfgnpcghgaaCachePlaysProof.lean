/- CachePlays: for every input the law returns true, and each argument reads behind the call as it read before. No condition. -/
import Derived.Test.YtlmjjfgnpcghgaaRows
import Derived.Test.YtlmjjfgnpcghgaaLawCPlays
import Derived.Test.YtlmjjfgnpcghgaaArg
import Derived.WalkKit
import Derived.ProofKit
import Derived.OpenShut
import Derived.ShutString
import Derived.ChangeOld
import Derived.Below
import Derived.SizedLaws
namespace Go.Proofs.Ytlmjjfgnpcghgaa.cachePlays
open Go.ChangeShapes Go.WideShapes Go.ChangeAt Go.RowKit
open Go.ChangeMaps (open_string shut_string)
set_option linter.unusedVariables false
set_option linter.unusedSimpArgs false

theorem own : ownKnob Try.prog.godebug = none := by kernel_rfl
theorem laidOut : laidOutB Try.prog = true := by kernel_rfl

set_option maxRecDepth 100000 in
theorem walk (w : World) (a0 : Int) (w0 : (Lit.int .i64 a0).wf = true) (a1 : Option Addr) (len1 cap1 : Nat) (r1 : Rd Try.prog w 38 (Value.slice a1 len1 cap1).cells.toList) :
    Calls Try.prog 5 #[.int .i64 a0, .slice a1 len1 cap1] w fun e w' => e = .returned (.bool true) ∧ Below w.heap.size w w' := by
  obtain ⟨V, hrow, hV⟩ := Rd.row (k := 4) Try.underlying38 (by kernel_rfl) (by omega) r1
  have hc : ∀ i, ∃ (z : Int × Int × Int × Nat), (i < len1 → V i = [.int .i64 z.1, .int .i64 z.2.1, .int .i64 z.2.2.1, .int .u8 (z.2.2.2 : Int)]) ∧ z.2.2.2 < 256 := by
    intro i
    by_cases hi : i < len1
    · obtain ⟨hl, hf⟩ := Rd.struct Try.underlying44 (hV i hi)
      obtain ⟨x, hx, _⟩ := Rd.int Try.underlying3 (hf 0 _ rfl)
      obtain ⟨y, hy, _⟩ := Rd.int Try.underlying3 (hf 1 _ rfl)
      obtain ⟨n, hn, _⟩ := Rd.int Try.underlying3 (hf 2 _ rfl)
      obtain ⟨b, hb, hb1, hb2⟩ := Rd.int Try.underlying5 (hf 3 _ rfl)
      have hb0 : 0 ≤ b := hb1
      have hb3 : b ≤ 255 := hb2
      refine ⟨(x, y, n, b.toNat), fun _ => ?_, by show b.toNat < 256; omega⟩
      have e : ((b.toNat : Nat) : Int) = b := Int.toNat_of_nonneg hb0
      show V i = [.int .i64 x, .int .i64 y, .int .i64 n, .int .u8 ((b.toNat : Nat) : Int)]
      rw [e]
      exact list4 hl hx hy hn hb
    · exact ⟨(0, 0, 0, 0), fun h => absurd h hi, by show 0 < 256; omega⟩
  obtain ⟨f, hf⟩ := Classical.axiomOfChoice hc
  refine (cplays_walk a0 a1 len1 cap1 (fun i => (f i).1) (fun i => (f i).2.1) (fun i => (f i).2.2.1) (fun i => (f i).2.2.2) w (hrow.congr (fun i hi => (hf i).1 hi)) (fun i => (hf i).2)).mono ?_
  rintro e w' ⟨v, rfl, rfl, hs⟩
  exact ⟨rfl, hs.below⟩

set_option maxRecDepth 100000 in
theorem lifted (os : Os) (started : os.Started) (H : Type) (enc : TypeId × Value → H) :
    ReturnsInHanded {} Try.checked os 5 .any (Rows.cachePlaysSpec.pre6 enc Try.prog Try.f5 Rows.cachePlaysRow.domain false) (Rows.cachePlaysSpec.post enc Try.prog Try.f5 false true false false) := by
  refine returnsInHanded_of_change_sized (C := Try.checked) own started (by kernel_rfl) Try.func5
    (ChangeSpec.witness6 (enc := enc) (C := Try.checked) false ⟨#[], #[.int .i64 0, .slice none 0 0], []⟩ 8 (by kernel_rfl) (by kernel_rfl) (by kernel_rfl) (by kernel_rfl)) ?_
  intro W base args ds gs before hval0 hW hcnd hsz0 _
  have hval : ∀ (j : Nat) t v, Try.f5.params[j]? = some t → args[j]? = some v → Value.okWide Try.prog W .any base t v := hval0
  have hW' := hW
  obtain ⟨p, q, hA0, hV, rfl, hfz, hnd⟩ := hW
  have hA : DataW.TrodAll enc Try.prog W 0 (fun _ => true) true Try.f5.params.toList args.toList ds p := hA0
  have hsz : (DataW.weightsEach Try.prog (Try.f5.params.toList ++ Rows.cachePlaysSpec.plain.varTypes Try.prog) (ds ++ gs)).all (· ≤ reachBytes) = true := hsz0
  rw [Try.params5] at hA hval hsz
  obtain ⟨v0, vs0, d0, ds0, p0, q0, hargs, rfl, rfl, h0, r0⟩ := trodAll_cons hA
  obtain ⟨v1, vs1, d1, ds1, p1, q1, rfl, rfl, rfl, h1, r1⟩ := trodAll_cons r0
  obtain ⟨rfl, rfl, rfl⟩ := trodAll_nil r1
  obtain rfl : args = #[v0, v1] := by cases args; simp_all
  obtain ⟨rfl, rfl⟩ := trodVars_none hV
  obtain ⟨a0, rfl, rfl, rfl, w0⟩ := open_int Try.underlying3 (hval 0 3 v0 rfl rfl) h0
  have kk1 := h1
  have lt1 : ∀ x ∈ p1, x.block < W.heap.size := by obtain ⟨m, hm⟩ := kk1; exact DataW.trod_lt m _ _ _ hm
  obtain ⟨a1, len1, cap1, rfl⟩ := okWide_slice Try.underlying38 (hval 1 38 v1 rfl rfl)
  clear hA0 hval0 hsz0
  refine (walk W a0 w0 a1 len1 cap1 (Rd.of kk1 (Rd.sized hsz (j := 1) rfl rfl))).mono fun e W' ⟨he, bel⟩ => ?_
  subst he
  exact ⟨_, rfl, _, _, _, [], _, [], hW', trodAll_mk1 (shut_bool Try.underlying4 _), (trodAll_cons_mk (shut_int Try.underlying3 w0) (trodAll_cons_mk (Below.trod laidOut (by kernel_rfl) (of_decide_eq_true (by kernel_rfl)) kk1 bel lt1) trodAll_mk0)), rfl, bel.frame _, fun h => by cases h⟩

theorem over : Rows.cachePlaysRow.holds Try.pinned (OpenSpec.ofChange Rows.cachePlaysSpec) :=
  OpenClaim.holds_of_wide 5 Try.f5 rfl rfl rfl rfl rfl rfl rfl ⟨rfl, rfl, rfl, rfl, rfl⟩ rfl rfl rfl rfl rfl (by kernel_rfl) Try.func5 (by kernel_rfl)
    (of_decide_eq_true (by kernel_rfl)) (by unfold Func.isWrapper; first | (rw [if_pos (by decide +kernel)]; kernel_rfl) | (rw [if_neg (by decide +kernel)]; exact ⟨rfl, rfl⟩))
    (fun os started H enc _ => lifted os started H enc)

theorem proved : Rows.CachePlaysSaid := over
end Go.Proofs.Ytlmjjfgnpcghgaa.cachePlays
