/- WalPlays: for every input the law returns true, and each argument reads behind the call as it read before. No condition. -/
import Derived.Test.YtjjnadlklfegcaaRows
import Derived.Test.YtjjnadlklfegcaaLawPlays
import Derived.Test.YtjjnadlklfegcaaArg
import Derived.WalkKit
import Derived.ProofKit
import Derived.OpenShut
import Derived.ShutString
import Derived.ChangeOld
import Derived.Below
namespace Go.Proofs.Ytjjnadlklfegcaa.walPlays
open Go.ChangeShapes Go.WideShapes Go.ChangeAt Go.RowKit
open Go.ChangeMaps (open_string shut_string)
set_option linter.unusedVariables false
set_option linter.unusedSimpArgs false

theorem own : ownKnob Try.prog.godebug = none := by kernel_rfl
theorem laidOut : laidOutB Try.prog = true := by kernel_rfl

set_option maxRecDepth 100000 in
theorem walk (w : World) (a0 : Int) (w0 : (Lit.int .i64 a0).wf = true) (a1 : Int) (w1 : (Lit.int .u64 a1).wf = true) (a2 : Option Addr) (len2 cap2 : Nat) (r2 : Rd Try.prog w 69 (Value.slice a2 len2 cap2).cells.toList) :
    Calls Try.prog 8 #[.int .i64 a0, .int .u64 a1, .slice a2 len2 cap2] w fun e w' => e = .returned (.bool true) ∧ Below w.heap.size w w' := by
  have blk : ∀ (a : Option Addr) (n c : Nat), Rd Try.prog w 23 (Value.slice a n c).cells.toList → ∃ (A S : Nat → Int) (B : Nat → Nat), BlkRow a n A S B w ∧ ∀ i, B i < 256 := by
    intro a n c r
    obtain ⟨V, hrow, hV⟩ := Rd.row (k := 3) Try.underlying23 (by kernel_rfl) (by omega) r
    have hb : ∀ i, ∃ (x : Int × Int × Nat), (i < n → V i = [.int .i64 x.1, .int .i64 x.2.1, .int .u8 (x.2.2 : Int)]) ∧ x.2.2 < 256 := by
      intro i
      by_cases hi : i < n
      · obtain ⟨hl, hf⟩ := Rd.struct Try.underlying59 (hV i hi)
        obtain ⟨x, hx, _⟩ := Rd.int Try.underlying3 (hf 0 _ rfl)
        obtain ⟨y, hy, _⟩ := Rd.int Try.underlying3 (hf 1 _ rfl)
        obtain ⟨z, hz, hz1, hz2⟩ := Rd.int Try.underlying5 (hf 2 _ rfl)
        have hz0 : 0 ≤ z := hz1
        have hz3 : z ≤ 255 := hz2
        refine ⟨(x, y, z.toNat), fun _ => ?_, by show z.toNat < 256; omega⟩
        have e : ((z.toNat : Nat) : Int) = z := Int.toNat_of_nonneg hz0
        rw [e]
        exact list3 hl hx hy hz
      · exact ⟨(0, 0, 0), fun h => absurd h hi, by show 0 < 256; omega⟩
    exact ⟨fun i => (Classical.choose (hb i)).1, fun i => (Classical.choose (hb i)).2.1, fun i => (Classical.choose (hb i)).2.2, hrow.congr (fun i hi => (Classical.choose_spec (hb i)).1 hi), fun i => (Classical.choose_spec (hb i)).2⟩
  obtain ⟨V, hrow, hV⟩ := Rd.row (k := 3) Try.underlying69 (by kernel_rfl) (by omega) r2
  have hc : ∀ i, ∃ (z : (Int × Int × Option Addr × Nat × Nat) × (Nat → Int) × (Nat → Int) × (Nat → Nat)), (∀ k, z.2.2.2 k < 256) ∧ (i < len2 → V i = [.int .i64 z.1.1, .int .i64 z.1.2.1, .slice z.1.2.2.1 z.1.2.2.2.1 z.1.2.2.2.2] ∧ (-9223372036854775808 ≤ z.1.2.1 ∧ z.1.2.1 ≤ 9223372036854775807) ∧ BlkRow z.1.2.2.1 z.1.2.2.2.1 z.2.1 z.2.2.1 z.2.2.2 w) := by
    intro i
    by_cases hi : i < len2
    · obtain ⟨hl, hf⟩ := Rd.struct Try.underlying74 (hV i hi)
      obtain ⟨x, hx, _⟩ := Rd.int Try.underlying3 (hf 0 _ rfl)
      obtain ⟨y, hy, hy1, hy2⟩ := Rd.int Try.underlying3 (hf 1 _ rfl)
      have hs := hf 2 _ rfl
      have hz : ∃ (a : Option Addr) (n c : Nat), ((V i).drop 2).take 1 = [Value.slice a n c] := by
        rcases Rd.slice Try.underlying23 (of_decide_eq_true (by kernel_rfl)) hs with hz | ⟨b, o, ln, cp, _, hz, _⟩
        · exact ⟨_, _, _, hz⟩
        · exact ⟨_, _, _, hz⟩
      obtain ⟨a, n, c, hz⟩ := hz
      have hs2 : Rd Try.prog w 23 (((V i).drop 2).take 1) := hs
      rw [hz] at hs2
      obtain ⟨A, S, B, hC, hB⟩ := blk a n c hs2
      exact ⟨((x, y, a, n, c), A, S, B), hB, fun _ => ⟨list3 hl hx hy hz, ⟨hy1, hy2⟩, hC⟩⟩
    · exact ⟨((0, 0, none, 0, 0), fun _ => 0, fun _ => 0, fun _ => 0), fun _ => by show 0 < 256; omega, fun h => absurd h hi⟩
  obtain ⟨f, hf⟩ := Classical.axiomOfChoice hc
  have b0 : IntKind.i64.min ≤ a0 ∧ a0 ≤ IntKind.i64.max := by simpa [Lit.wf] using w0
  have b1 : IntKind.u64.min ≤ a1 ∧ a1 ≤ IntKind.u64.max := by simpa [Lit.wf] using w1
  have h1 : 0 ≤ a1 := b1.1
  have h2 : a1 ≤ 18446744073709551615 := b1.2
  obtain ⟨q, rfl⟩ := Int.eq_ofNat_of_zero_le h1
  refine (plays_walk a0 q a2 len2 cap2 (fun i => (f i).1.1) (fun i => (f i).1.2.1) (fun i => (f i).1.2.2.1) (fun i => (f i).1.2.2.2.1) (fun i => (f i).1.2.2.2.2) (fun i => (f i).2.1) (fun i => (f i).2.2.1) (fun i => (f i).2.2.2) w b0 (by omega) (hrow.congr (fun i hi => ((hf i).2 hi).1)) (fun i hi => ((hf i).2 hi).2.1) (fun i hi => ((hf i).2 hi).2.2) (fun i => (hf i).1)).mono ?_
  rintro e w' ⟨v, rfl, rfl, hs⟩
  exact ⟨rfl, hs.below⟩

set_option maxRecDepth 100000 in
theorem lifted (os : Os) (started : os.Started) (H : Type) (enc : TypeId × Value → H) :
    ReturnsInHanded {} Try.checked os 8 .any (Rows.walPlaysSpec.pre6 enc Try.prog Try.f8 Rows.walPlaysRow.domain false) (Rows.walPlaysSpec.post enc Try.prog Try.f8 false true false false) := by
  refine returnsInHanded_of_change (C := Try.checked) own started (by kernel_rfl) Try.func8
    (ChangeSpec.witness6 (enc := enc) (C := Try.checked) false ⟨#[], #[.int .i64 0, .int .u64 0, .slice none 0 0], []⟩ 8 (by kernel_rfl) (by kernel_rfl) (by kernel_rfl) (by kernel_rfl)) ?_
  intro W base args ds gs before hval0 hW hcnd _
  have hval : ∀ (j : Nat) t v, Try.f8.params[j]? = some t → args[j]? = some v → Value.okWide Try.prog W .any base t v := hval0
  have hW' := hW
  obtain ⟨p, q, hA0, hV, rfl, hfz, hnd⟩ := hW
  have hA : DataW.TrodAll enc Try.prog W 0 (fun _ => true) true Try.f8.params.toList args.toList ds p := hA0
  rw [Try.params8] at hA hval
  obtain ⟨v0, vs0, d0, ds0, p0, q0, hargs, rfl, rfl, h0, r0⟩ := trodAll_cons hA
  obtain ⟨v1, vs1, d1, ds1, p1, q1, rfl, rfl, rfl, h1, r1⟩ := trodAll_cons r0
  obtain ⟨v2, vs2, d2, ds2, p2, q2, rfl, rfl, rfl, h2, r2⟩ := trodAll_cons r1
  obtain ⟨rfl, rfl, rfl⟩ := trodAll_nil r2
  obtain rfl : args = #[v0, v1, v2] := by cases args; simp_all
  obtain ⟨rfl, rfl⟩ := trodVars_none hV
  obtain ⟨a0, rfl, rfl, rfl, w0⟩ := open_int Try.underlying3 (hval 0 3 v0 rfl rfl) h0
  obtain ⟨a1, rfl, rfl, rfl, w1⟩ := open_int Try.underlying22 (hval 1 22 v1 rfl rfl) h1
  have kk2 := h2
  have lt2 : ∀ x ∈ p2, x.block < W.heap.size := by obtain ⟨m, hm⟩ := kk2; exact DataW.trod_lt m _ _ _ hm
  obtain ⟨a2, len2, cap2, rfl⟩ := okWide_slice Try.underlying69 (hval 2 69 v2 rfl rfl)
  clear hA0 hval0
  refine (walk W a0 w0 a1 w1 a2 len2 cap2 (Rd.of kk2)).mono fun e W' ⟨he, bel⟩ => ?_
  subst he
  exact ⟨_, rfl, _, _, _, [], _, [], hW', trodAll_mk1 (shut_bool Try.underlying4 _), (trodAll_cons_mk (shut_int Try.underlying3 w0) (trodAll_cons_mk (shut_int Try.underlying22 w1) (trodAll_cons_mk (Below.trod laidOut (by kernel_rfl) (of_decide_eq_true (by kernel_rfl)) kk2 bel lt2) trodAll_mk0))), rfl, bel.frame _, fun h => by cases h⟩

theorem over : Rows.walPlaysRow.holds Try.pinned (OpenSpec.ofChange Rows.walPlaysSpec) :=
  OpenClaim.holds_of_wide 8 Try.f8 rfl rfl rfl rfl rfl rfl rfl ⟨rfl, rfl, rfl, rfl, rfl⟩ rfl rfl rfl rfl rfl (by kernel_rfl) Try.func8 (by kernel_rfl)
    (of_decide_eq_true (by kernel_rfl)) (by unfold Func.isWrapper; first | (rw [if_pos (by decide +kernel)]; kernel_rfl) | (rw [if_neg (by decide +kernel)]; exact ⟨rfl, rfl⟩))
    (fun os started H enc _ => lifted os started H enc)

theorem proved : Rows.WalPlaysSaid := over
end Go.Proofs.Ytjjnadlklfegcaa.walPlays
