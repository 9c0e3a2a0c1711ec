/- DiskKeeps: for every input the law returns true, and each argument reads behind the call as it read before. No condition. -/
import Derived.Test.YtjjiljijcigekaaRows
import Derived.Test.YtjjiljijcigekaaLawKeeps
import Derived.Test.YtjjiljijcigekaaArg
import Derived.WalkKit
import Derived.ProofKit
import Derived.OpenShut
import Derived.ShutString
import Derived.ChangeOld
import Derived.Below
namespace Go.Proofs.Ytjjiljijcigekaa.diskKeeps
open Go.ChangeShapes Go.WideShapes Go.ChangeAt Go.RowKit
open Go.ChangeMaps (open_string shut_string)
set_option linter.unusedVariables false
set_option linter.unusedSimpArgs false

theorem own : ownKnob Try.prog.godebug = none := by kernel_rfl
theorem laidOut : laidOutB Try.prog = true := by kernel_rfl

set_option maxRecDepth 100000 in
theorem walk (w : World) (a0 : Option Addr) (len0 cap0 : Nat) (r0 : Rd Try.prog w 22 (Value.slice a0 len0 cap0).cells.toList) (a1 : Option Addr) (len1 cap1 : Nat) (r1 : Rd Try.prog w 22 (Value.slice a1 len1 cap1).cells.toList) (a2 : Option Addr) (len2 cap2 : Nat) (r2 : Rd Try.prog w 30 (Value.slice a2 len2 cap2).cells.toList) :
    Calls Try.prog 5 #[.slice a0 len0 cap0, .slice a1 len1 cap1, .slice a2 len2 cap2] w fun e w' => e = .returned (.bool true) ∧ Below w.heap.size w w' := by
  have crow : ∀ (a : Option Addr) (n c : Nat), Rd Try.prog w 22 (Value.slice a n c).cells.toList → ∃ (At : Nat → Int) (B : Nat → Nat), CRow a n At B w ∧ ∀ i, B i < 256 := by
    intro a n c r
    obtain ⟨V, hrow, hV⟩ := Rd.row (k := 5) Try.underlying22 (by kernel_rfl) (by omega) r
    have hc : ∀ i, ∃ (z : Int × Nat), z.2 < 256 ∧ (i < n → (V i)[1]? = some (.int .i64 z.1) ∧ (V i)[3]? = some (.int .u8 (z.2 : Int))) := by
      intro i
      by_cases hi : i < n
      · obtain ⟨hl, hf⟩ := Rd.struct Try.underlying32 (hV i hi)
        obtain ⟨y, hy, _⟩ := Rd.int Try.underlying3 (hf 1 _ rfl)
        obtain ⟨z, hz, hz1, hz2⟩ := Rd.int Try.underlying5 (hf 3 _ rfl)
        have hz0 : 0 ≤ z := hz1
        have hz3 : z ≤ 255 := hz2
        refine ⟨(y, z.toNat), by show z.toNat < 256; omega, fun _ => ⟨take1_get (k := 1) hy, ?_⟩⟩
        have e : ((z.toNat : Nat) : Int) = z := Int.toNat_of_nonneg hz0
        show (V i)[3]? = some (.int .u8 ((z.toNat : Nat) : Int))
        rw [e]
        exact take1_get (k := 3) hz
      · exact ⟨(0, 0), by show 0 < 256; omega, fun h => absurd h hi⟩
    obtain ⟨f, hf⟩ := Classical.axiomOfChoice hc
    exact ⟨fun i => (f i).1, fun i => (f i).2, CRow.of hrow (fun i hi => (hf i).2 hi), fun i => (hf i).1⟩
  obtain ⟨At0, B0, hC0, hB0⟩ := crow a0 len0 cap0 r0
  obtain ⟨At1, B1, hC1, hB1⟩ := crow a1 len1 cap1 r1
  obtain ⟨V, hrow, hV⟩ := Rd.row (k := 1) Try.underlying30 (by kernel_rfl) (by omega) r2
  have hc : ∀ i, ∃ z : Int, (-9223372036854775808 ≤ z ∧ z ≤ 9223372036854775807) ∧ (i < len2 → V i = [.int .i64 z]) := by
    intro i
    by_cases hi : i < len2
    · obtain ⟨y, hy, hy1, hy2⟩ := Rd.int Try.underlying3 (hV i hi)
      exact ⟨y, ⟨hy1, hy2⟩, fun _ => hy⟩
    · exact ⟨0, by omega, fun h => absurd h hi⟩
  obtain ⟨Z, hZ⟩ := Classical.axiomOfChoice hc
  have hr := hrow.congr (fun i hi => (hZ i).2 hi)
  refine (keeps_walk a0 len0 cap0 At0 B0 a1 len1 cap1 At1 B1 a2 len2 cap2 Z w hC0 hB0 hC1 hB1 (fun i _ => (hZ i).1) hr).mono ?_
  rintro e w' ⟨v, rfl, rfl, hs⟩
  exact ⟨rfl, hs.below⟩

set_option maxRecDepth 100000 in
theorem lifted (os : Os) (started : os.Started) (H : Type) (enc : TypeId × Value → H) :
    ReturnsInHanded {} Try.checked os 5 .any (Rows.diskKeepsSpec.pre6 enc Try.prog Try.f5 Rows.diskKeepsRow.domain false) (Rows.diskKeepsSpec.post enc Try.prog Try.f5 false true false false) := by
  refine returnsInHanded_of_change (C := Try.checked) own started (by kernel_rfl) Try.func5
    (ChangeSpec.witness6 (enc := enc) (C := Try.checked) false ⟨#[], #[.slice none 0 0, .slice none 0 0, .slice none 0 0], []⟩ 8 (by kernel_rfl) (by kernel_rfl) (by kernel_rfl) (by kernel_rfl)) ?_
  intro W base args ds gs before hval0 hW hcnd _
  have hval : ∀ (j : Nat) t v, Try.f5.params[j]? = some t → args[j]? = some v → Value.okWide Try.prog W .any base t v := hval0
  have hW' := hW
  obtain ⟨p, q, hA0, hV, rfl, hfz, hnd⟩ := hW
  have hA : DataW.TrodAll enc Try.prog W 0 (fun _ => true) true Try.f5.params.toList args.toList ds p := hA0
  rw [Try.params5] at hA hval
  obtain ⟨v0, vs0, d0, ds0, p0, q0, hargs, rfl, rfl, h0, r0⟩ := trodAll_cons hA
  obtain ⟨v1, vs1, d1, ds1, p1, q1, rfl, rfl, rfl, h1, r1⟩ := trodAll_cons r0
  obtain ⟨v2, vs2, d2, ds2, p2, q2, rfl, rfl, rfl, h2, r2⟩ := trodAll_cons r1
  obtain ⟨rfl, rfl, rfl⟩ := trodAll_nil r2
  obtain rfl : args = #[v0, v1, v2] := by cases args; simp_all
  obtain ⟨rfl, rfl⟩ := trodVars_none hV
  have kk0 := h0
  have lt0 : ∀ x ∈ p0, x.block < W.heap.size := by obtain ⟨m, hm⟩ := kk0; exact DataW.trod_lt m _ _ _ hm
  obtain ⟨a0, len0, cap0, rfl⟩ := okWide_slice Try.underlying22 (hval 0 22 v0 rfl rfl)
  have kk1 := h1
  have lt1 : ∀ x ∈ p1, x.block < W.heap.size := by obtain ⟨m, hm⟩ := kk1; exact DataW.trod_lt m _ _ _ hm
  obtain ⟨a1, len1, cap1, rfl⟩ := okWide_slice Try.underlying22 (hval 1 22 v1 rfl rfl)
  have kk2 := h2
  have lt2 : ∀ x ∈ p2, x.block < W.heap.size := by obtain ⟨m, hm⟩ := kk2; exact DataW.trod_lt m _ _ _ hm
  obtain ⟨a2, len2, cap2, rfl⟩ := okWide_slice Try.underlying30 (hval 2 30 v2 rfl rfl)
  clear hA0 hval0
  refine (walk W a0 len0 cap0 (Rd.of kk0) a1 len1 cap1 (Rd.of kk1) a2 len2 cap2 (Rd.of kk2)).mono fun e W' ⟨he, bel⟩ => ?_
  subst he
  exact ⟨_, rfl, _, _, _, [], _, [], hW', trodAll_mk1 (shut_bool Try.underlying4 _), (trodAll_cons_mk (Below.trod laidOut (by kernel_rfl) (of_decide_eq_true (by kernel_rfl)) kk0 bel lt0) (trodAll_cons_mk (Below.trod laidOut (by kernel_rfl) (of_decide_eq_true (by kernel_rfl)) kk1 bel lt1) (trodAll_cons_mk (Below.trod laidOut (by kernel_rfl) (of_decide_eq_true (by kernel_rfl)) kk2 bel lt2) trodAll_mk0))), rfl, bel.frame _, fun h => by cases h⟩

theorem over : Rows.diskKeepsRow.holds Try.pinned (OpenSpec.ofChange Rows.diskKeepsSpec) :=
  OpenClaim.holds_of_wide 5 Try.f5 rfl rfl rfl rfl rfl rfl rfl ⟨rfl, rfl, rfl, rfl, rfl⟩ rfl rfl rfl rfl rfl (by kernel_rfl) Try.func5 (by kernel_rfl)
    (of_decide_eq_true (by kernel_rfl)) (by unfold Func.isWrapper; first | (rw [if_pos (by decide +kernel)]; kernel_rfl) | (rw [if_neg (by decide +kernel)]; exact ⟨rfl, rfl⟩))
    (fun os started H enc _ => lifted os started H enc)

theorem proved : Rows.DiskKeepsSaid := over
end Go.Proofs.Ytjjiljijcigekaa.diskKeeps
