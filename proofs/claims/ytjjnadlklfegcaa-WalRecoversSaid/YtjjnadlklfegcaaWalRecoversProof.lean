/- WalRecovers: for every input the law returns true, and each argument reads behind the call as it read before. No condition. -/
import Derived.Test.YtjjnadlklfegcaaRows
import Derived.Test.YtjjnadlklfegcaaLawRecov
import Derived.Test.YtjjnadlklfegcaaArg
import Derived.WalkKit
import Derived.ProofKit
import Derived.OpenShut
import Derived.ShutString
import Derived.ChangeOld
import Derived.Below
namespace Go.Proofs.Ytjjnadlklfegcaa.walRecovers
open Go.ChangeShapes Go.WideShapes Go.ChangeAt Go.RowKit
open Go.ChangeMaps (open_string shut_string)
set_option linter.unusedVariables false
set_option linter.unusedSimpArgs false

theorem own : ownKnob Try.prog.godebug = none := by kernel_rfl
theorem laidOut : laidOutB Try.prog = true := by kernel_rfl

set_option maxRecDepth 100000 in
theorem walk (w : World) (a0 : Int) (w0 : (Lit.int .u64 a0).wf = true) (a1 : Option Addr) (len1 cap1 : Nat) (r1 : Rd Try.prog w 23 (Value.slice a1 len1 cap1).cells.toList) (a2 : Option Addr) (len2 cap2 : Nat) (r2 : Rd Try.prog w 37 (Value.slice a2 len2 cap2).cells.toList) (a3 : Option Addr) (len3 cap3 : Nat) (r3 : Rd Try.prog w 27 (Value.slice a3 len3 cap3).cells.toList) (a4 : Int) (w4 : (Lit.int .i64 a4).wf = true) :
    Calls Try.prog 4 #[.int .u64 a0, .slice a1 len1 cap1, .slice a2 len2 cap2, .slice a3 len3 cap3, .int .i64 a4] w fun e w' => e = .returned (.bool true) ∧ Below w.heap.size w w' := by
  obtain ⟨V, hrow, hV⟩ := Rd.row (k := 3) Try.underlying23 (by kernel_rfl) (by omega) r1
  have hb : ∀ i, ∃ (x : Int × Int × Nat), (i < len1 → V i = [.int .i64 x.1, .int .i64 x.2.1, .int .u8 (x.2.2 : Int)]) ∧ x.2.2 < 256 := by
    intro i
    by_cases hi : i < len1
    · obtain ⟨hl, hf⟩ := Rd.struct Try.underlying59 (hV i hi)
      obtain ⟨x, hx, _⟩ := Rd.int Try.underlying3 (hf 0 _ rfl)
      obtain ⟨y, hy, _⟩ := Rd.int Try.underlying3 (hf 1 _ rfl)
      obtain ⟨z, hz, hz1, hz2⟩ := Rd.int Try.underlying5 (hf 2 _ rfl)
      have hz0 : 0 ≤ z := hz1
      have hz3 : z ≤ 255 := hz2
      refine ⟨(x, y, z.toNat), fun _ => ?_, by show z.toNat < 256; omega⟩
      have e : ((z.toNat : Nat) : Int) = z := Int.toNat_of_nonneg hz0
      rw [e]
      exact list3 hl hx hy hz
    · exact ⟨(0, 0, 0), fun h => absurd h hi, by show 0 < 256; omega⟩
  have b0 : IntKind.u64.min ≤ a0 ∧ a0 ≤ IntKind.u64.max := by simpa [Lit.wf] using w0
  have h0 : 0 ≤ a0 := b0.1
  have h1 : a0 ≤ 18446744073709551615 := b0.2
  obtain ⟨seq, rfl⟩ := Int.eq_ofNat_of_zero_le h0
  obtain ⟨AT, hAT, hAr⟩ := Rd.ints Try.underlying37 Try.underlying3 (by kernel_rfl) r2
  obtain ⟨BY, hBY, hBr⟩ := Rd.bytes Try.underlying27 Try.underlying5 (by kernel_rfl) r3
  have b4 : IntKind.i64.min ≤ a4 ∧ a4 ≤ IntKind.i64.max := by simpa [Lit.wf] using w4
  refine (recovers_walk seq (by omega) a1 len1 cap1 (fun i => (Classical.choose (hb i)).1) (fun i => (Classical.choose (hb i)).2.1) (fun i => (Classical.choose (hb i)).2.2) a2 len2 cap2 AT a3 len3 cap3 BY a4 w (hrow.congr (fun i hi => (Classical.choose_spec (hb i)).1 hi)) (fun i => (Classical.choose_spec (hb i)).2) hAT hAr hBY hBr b4).mono ?_
  rintro e w' ⟨v, rfl, rfl, hs⟩
  exact ⟨rfl, hs.below⟩

set_option maxRecDepth 100000 in
theorem lifted (os : Os) (started : os.Started) (H : Type) (enc : TypeId × Value → H) :
    ReturnsInHanded {} Try.checked os 4 .any (Rows.walRecoversSpec.pre6 enc Try.prog Try.f4 Rows.walRecoversRow.domain false) (Rows.walRecoversSpec.post enc Try.prog Try.f4 false true false false) := by
  refine returnsInHanded_of_change (C := Try.checked) own started (by kernel_rfl) Try.func4
    (ChangeSpec.witness6 (enc := enc) (C := Try.checked) false ⟨#[], #[.int .u64 0, .slice none 0 0, .slice none 0 0, .slice none 0 0, .int .i64 0], []⟩ 8 (by kernel_rfl) (by kernel_rfl) (by kernel_rfl) (by kernel_rfl)) ?_
  intro W base args ds gs before hval0 hW hcnd _
  have hval : ∀ (j : Nat) t v, Try.f4.params[j]? = some t → args[j]? = some v → Value.okWide Try.prog W .any base t v := hval0
  have hW' := hW
  obtain ⟨p, q, hA0, hV, rfl, hfz, hnd⟩ := hW
  have hA : DataW.TrodAll enc Try.prog W 0 (fun _ => true) true Try.f4.params.toList args.toList ds p := hA0
  rw [Try.params4] at hA hval
  obtain ⟨v0, vs0, d0, ds0, p0, q0, hargs, rfl, rfl, h0, r0⟩ := trodAll_cons hA
  obtain ⟨v1, vs1, d1, ds1, p1, q1, rfl, rfl, rfl, h1, r1⟩ := trodAll_cons r0
  obtain ⟨v2, vs2, d2, ds2, p2, q2, rfl, rfl, rfl, h2, r2⟩ := trodAll_cons r1
  obtain ⟨v3, vs3, d3, ds3, p3, q3, rfl, rfl, rfl, h3, r3⟩ := trodAll_cons r2
  obtain ⟨v4, vs4, d4, ds4, p4, q4, rfl, rfl, rfl, h4, r4⟩ := trodAll_cons r3
  obtain ⟨rfl, rfl, rfl⟩ := trodAll_nil r4
  obtain rfl : args = #[v0, v1, v2, v3, v4] := by cases args; simp_all
  obtain ⟨rfl, rfl⟩ := trodVars_none hV
  obtain ⟨a0, rfl, rfl, rfl, w0⟩ := open_int Try.underlying22 (hval 0 22 v0 rfl rfl) h0
  have kk1 := h1
  have lt1 : ∀ x ∈ p1, x.block < W.heap.size := by obtain ⟨m, hm⟩ := kk1; exact DataW.trod_lt m _ _ _ hm
  obtain ⟨a1, len1, cap1, rfl⟩ := okWide_slice Try.underlying23 (hval 1 23 v1 rfl rfl)
  have kk2 := h2
  have lt2 : ∀ x ∈ p2, x.block < W.heap.size := by obtain ⟨m, hm⟩ := kk2; exact DataW.trod_lt m _ _ _ hm
  obtain ⟨a2, len2, cap2, rfl⟩ := okWide_slice Try.underlying37 (hval 2 37 v2 rfl rfl)
  have kk3 := h3
  have lt3 : ∀ x ∈ p3, x.block < W.heap.size := by obtain ⟨m, hm⟩ := kk3; exact DataW.trod_lt m _ _ _ hm
  obtain ⟨a3, len3, cap3, rfl⟩ := okWide_slice Try.underlying27 (hval 3 27 v3 rfl rfl)
  obtain ⟨a4, rfl, rfl, rfl, w4⟩ := open_int Try.underlying3 (hval 4 3 v4 rfl rfl) h4
  clear hA0 hval0
  refine (walk W a0 w0 a1 len1 cap1 (Rd.of kk1) a2 len2 cap2 (Rd.of kk2) a3 len3 cap3 (Rd.of kk3) a4 w4).mono fun e W' ⟨he, bel⟩ => ?_
  subst he
  exact ⟨_, rfl, _, _, _, [], _, [], hW', trodAll_mk1 (shut_bool Try.underlying4 _), (trodAll_cons_mk (shut_int Try.underlying22 w0) (trodAll_cons_mk (Below.trod laidOut (by kernel_rfl) (of_decide_eq_true (by kernel_rfl)) kk1 bel lt1) (trodAll_cons_mk (Below.trod laidOut (by kernel_rfl) (of_decide_eq_true (by kernel_rfl)) kk2 bel lt2) (trodAll_cons_mk (Below.trod laidOut (by kernel_rfl) (of_decide_eq_true (by kernel_rfl)) kk3 bel lt3) (trodAll_cons_mk (shut_int Try.underlying3 w4) trodAll_mk0))))), rfl, bel.frame _, fun h => by cases h⟩

theorem over : Rows.walRecoversRow.holds Try.pinned (OpenSpec.ofChange Rows.walRecoversSpec) :=
  OpenClaim.holds_of_wide 4 Try.f4 rfl rfl rfl rfl rfl rfl rfl ⟨rfl, rfl, rfl, rfl, rfl⟩ rfl rfl rfl rfl rfl (by kernel_rfl) Try.func4 (by kernel_rfl)
    (of_decide_eq_true (by kernel_rfl)) (by unfold Func.isWrapper; first | (rw [if_pos (by decide +kernel)]; kernel_rfl) | (rw [if_neg (by decide +kernel)]; exact ⟨rfl, rfl⟩))
    (fun os started H enc _ => lifted os started H enc)

theorem proved : Rows.WalRecoversSaid := over
end Go.Proofs.Ytjjnadlklfegcaa.walRecovers
