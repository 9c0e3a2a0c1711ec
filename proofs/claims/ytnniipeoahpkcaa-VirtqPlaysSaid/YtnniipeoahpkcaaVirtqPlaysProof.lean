/- VirtqPlays: for every input the law returns true, and each argument reads behind the call as it read before. No condition. -/
import Derived.Test.YtnniipeoahpkcaaRows
import Derived.Test.YtnniipeoahpkcaaLawVPlays
import Derived.Test.YtnniipeoahpkcaaArg
import Derived.WalkKit
import Derived.ProofKit
import Derived.OpenShut
import Derived.ShutString
import Derived.ChangeOld
import Derived.Below
import Derived.SizedLaws
namespace Go.Proofs.Ytnniipeoahpkcaa.virtqPlays
open Go.ChangeShapes Go.WideShapes Go.ChangeAt Go.RowKit
open Go.ChangeMaps (open_string shut_string)
set_option linter.unusedVariables false
set_option linter.unusedSimpArgs false

theorem own : ownKnob Try.prog.godebug = none := by kernel_rfl
theorem laidOut : laidOutB Try.prog = true := by kernel_rfl

set_option maxRecDepth 100000 in
theorem walk (w : World) (a0 : Int) (w0 : (Lit.int .i64 a0).wf = true) (a1 : Int) (w1 : (Lit.int .i64 a1).wf = true) (a2 : Int) (w2 : (Lit.int .i64 a2).wf = true) (a3 : Option Addr) (len3 cap3 : Nat) (r3 : Rd Try.prog w 46 (Value.slice a3 len3 cap3).cells.toList) :
    Calls Try.prog 5 #[.int .i64 a0, .int .i64 a1, .int .i64 a2, .slice a3 len3 cap3] w fun e w' => e = .returned (.bool true) ∧ Below w.heap.size w w' := by
  have buf : ∀ (a : Option Addr) (n c : Nat), Rd Try.prog w 37 (Value.slice a n c).cells.toList → ∃ l : List Bf, l.length = n ∧ BRow a l w ∧ ∀ x ∈ l, x.addr ≤ 9223372036854775807 := by
    intro a n c r
    obtain ⟨V, hrow, hV⟩ := Rd.row (k := 3) Try.underlying37 (by kernel_rfl) (by omega) r
    have hb : ∀ i, ∃ x : Bf, x.addr ≤ 9223372036854775807 ∧ (i < n → V i = [.int .i64 x.addr, .int .i64 x.len, .bool x.wr]) := by
      intro i
      by_cases hi : i < n
      · obtain ⟨hl, hf⟩ := Rd.struct Try.underlying36 (hV i hi)
        obtain ⟨x, hx, hx1, hx2⟩ := Rd.int Try.underlying3 (hf 0 _ rfl)
        obtain ⟨y, hy, _⟩ := Rd.int Try.underlying3 (hf 1 _ rfl)
        obtain ⟨z, hz⟩ := Rd.bool Try.underlying4 (hf 2 _ rfl)
        exact ⟨⟨x, y, z⟩, hx2, fun _ => list3 hl hx hy hz⟩
      · exact ⟨⟨0, 0, false⟩, by show (0 : Int) ≤ _; omega, fun h => absurd h hi⟩
    obtain ⟨f, hf⟩ := Classical.axiomOfChoice hb
    refine ⟨(List.range n).map f, by simp, ⟨by rw [List.length_map, List.length_range]; exact hrow.1, fun h0 => ?_⟩, fun x hx => ?_⟩
    · rw [List.length_map, List.length_range] at h0
      obtain ⟨b, o, e, hx⟩ := hrow.2 h0
      refine ⟨b, o, e, fun i x hi => ?_⟩
      have hin : i < n := by have := (List.getElem?_eq_some_iff.1 hi).1; rwa [List.length_map, List.length_range] at this
      have ex : x = f i := by rw [List.getElem?_map, List.getElem?_range hin] at hi; exact (Option.some.inj hi).symm
      have hh := (hx i hin).2
      rw [(hf i).2 hin, ← ex] at hh
      have y0 := hh 0 _ rfl
      rw [Nat.add_zero] at y0
      exact ⟨y0, hh 1 _ rfl, hh 2 _ rfl⟩
    · obtain ⟨i, _, rfl⟩ := List.mem_map.1 hx
      exact (hf i).1
  obtain ⟨V, hrow, hV⟩ := Rd.row (k := 4) Try.underlying46 (by kernel_rfl) (by omega) r3
  have hc : ∀ i, ∃ (z : (Int × Int × Int × Option Addr × Nat) × List Bf), i < len3 → (V i = [.int .i64 z.1.1, .int .i64 z.1.2.1, .int .i64 z.1.2.2.1, .slice z.1.2.2.2.1 z.2.length z.1.2.2.2.2] ∧
      ((-9223372036854775808 ≤ z.1.2.1 ∧ z.1.2.1 ≤ 9223372036854775807) ∧ -9223372036854775808 ≤ z.1.2.2.1 ∧ z.1.2.2.1 ≤ 9223372036854775807) ∧ (z.2.length = 0 → z.1.2.2.2.1 = none → z.1.2.2.2.2 = 0) ∧ (∀ x ∈ z.2, x.addr ≤ 9223372036854775807) ∧ BRow z.1.2.2.2.1 z.2 w) := by
    intro i
    by_cases hi : i < len3
    · obtain ⟨hl, hf⟩ := Rd.struct Try.underlying51 (hV i hi)
      obtain ⟨x, hx, _⟩ := Rd.int Try.underlying3 (hf 0 _ rfl)
      obtain ⟨y, hy, hy1, hy2⟩ := Rd.int Try.underlying3 (hf 1 _ rfl)
      obtain ⟨n, hn, hn1, hn2⟩ := Rd.int Try.underlying3 (hf 2 _ rfl)
      have hs := hf 3 _ rfl
      have hz : ∃ (a : Option Addr) (n c : Nat), ((V i).drop 3).take 1 = [Value.slice a n c] ∧ (n = 0 → a = none → c = 0) := by
        rcases Rd.slice Try.underlying37 (of_decide_eq_true (by kernel_rfl)) hs with hz | ⟨b, o, ln, cp, _, hz, _⟩
        · exact ⟨_, _, _, hz, fun _ _ => rfl⟩
        · exact ⟨_, _, _, hz, fun _ h => by cases h⟩
      obtain ⟨a, m, c, hz, hz0⟩ := hz
      have hs2 : Rd Try.prog w 37 (((V i).drop 3).take 1) := hs
      rw [hz] at hs2
      obtain ⟨l, hl2, hB, hA⟩ := buf a m c hs2
      subst hl2
      exact ⟨((x, y, n, a, c), l), fun _ => ⟨list4 hl hx hy hn hz, ⟨⟨hy1, hy2⟩, hn1, hn2⟩, hz0, hA, hB⟩⟩
    · exact ⟨((0, 0, 0, none, 0), []), fun h => absurd h hi⟩
  obtain ⟨f, hf⟩ := Classical.axiomOfChoice hc
  have b1 : IntKind.i64.min ≤ a1 ∧ a1 ≤ IntKind.i64.max := by simpa [Lit.wf] using w1
  refine (vplays_walk a0 a1 a2 a3 len3 cap3 (fun i => (f i).1.1) (fun i => (f i).1.2.1) (fun i => (f i).1.2.2.1) (fun i => (f i).1.2.2.2.1) (fun i => (f i).1.2.2.2.2) (fun i => (f i).2) w b1 (hrow.congr (fun i hi => (hf i hi).1)) (fun i hi => (hf i hi).2.1) (fun i hi => (hf i hi).2.2.1) (fun i hi => (hf i hi).2.2.2.1) (fun i hi => (hf i hi).2.2.2.2)).mono ?_
  rintro e w' ⟨v, rfl, rfl, hs⟩
  exact ⟨rfl, hs.below⟩

set_option maxRecDepth 100000 in
theorem lifted (os : Os) (started : os.Started) (H : Type) (enc : TypeId × Value → H) :
    ReturnsInHanded {} Try.checked os 5 .any (Rows.virtqPlaysSpec.pre6 enc Try.prog Try.f5 Rows.virtqPlaysRow.domain false) (Rows.virtqPlaysSpec.post enc Try.prog Try.f5 false true false false) := by
  refine returnsInHanded_of_change_sized (C := Try.checked) own started (by kernel_rfl) Try.func5
    (ChangeSpec.witness6 (enc := enc) (C := Try.checked) false ⟨#[], #[.int .i64 0, .int .i64 0, .int .i64 0, .slice none 0 0], []⟩ 8 (by kernel_rfl) (by kernel_rfl) (by kernel_rfl) (by kernel_rfl)) ?_
  intro W base args ds gs before hval0 hW hcnd hsz0 _
  have hval : ∀ (j : Nat) t v, Try.f5.params[j]? = some t → args[j]? = some v → Value.okWide Try.prog W .any base t v := hval0
  have hW' := hW
  obtain ⟨p, q, hA0, hV, rfl, hfz, hnd⟩ := hW
  have hA : DataW.TrodAll enc Try.prog W 0 (fun _ => true) true Try.f5.params.toList args.toList ds p := hA0
  have hsz : (DataW.weightsEach Try.prog (Try.f5.params.toList ++ Rows.virtqPlaysSpec.plain.varTypes Try.prog) (ds ++ gs)).all (· ≤ reachBytes) = true := hsz0
  rw [Try.params5] at hA hval hsz
  obtain ⟨v0, vs0, d0, ds0, p0, q0, hargs, rfl, rfl, h0, r0⟩ := trodAll_cons hA
  obtain ⟨v1, vs1, d1, ds1, p1, q1, rfl, rfl, rfl, h1, r1⟩ := trodAll_cons r0
  obtain ⟨v2, vs2, d2, ds2, p2, q2, rfl, rfl, rfl, h2, r2⟩ := trodAll_cons r1
  obtain ⟨v3, vs3, d3, ds3, p3, q3, rfl, rfl, rfl, h3, r3⟩ := trodAll_cons r2
  obtain ⟨rfl, rfl, rfl⟩ := trodAll_nil r3
  obtain rfl : args = #[v0, v1, v2, v3] := by cases args; simp_all
  obtain ⟨rfl, rfl⟩ := trodVars_none hV
  obtain ⟨a0, rfl, rfl, rfl, w0⟩ := open_int Try.underlying3 (hval 0 3 v0 rfl rfl) h0
  obtain ⟨a1, rfl, rfl, rfl, w1⟩ := open_int Try.underlying3 (hval 1 3 v1 rfl rfl) h1
  obtain ⟨a2, rfl, rfl, rfl, w2⟩ := open_int Try.underlying3 (hval 2 3 v2 rfl rfl) h2
  have kk3 := h3
  have lt3 : ∀ x ∈ p3, x.block < W.heap.size := by obtain ⟨m, hm⟩ := kk3; exact DataW.trod_lt m _ _ _ hm
  obtain ⟨a3, len3, cap3, rfl⟩ := okWide_slice Try.underlying46 (hval 3 46 v3 rfl rfl)
  clear hA0 hval0 hsz0
  refine (walk W a0 w0 a1 w1 a2 w2 a3 len3 cap3 (Rd.of kk3 (Rd.sized hsz (j := 3) rfl rfl))).mono fun e W' ⟨he, bel⟩ => ?_
  subst he
  exact ⟨_, rfl, _, _, _, [], _, [], hW', trodAll_mk1 (shut_bool Try.underlying4 _), (trodAll_cons_mk (shut_int Try.underlying3 w0) (trodAll_cons_mk (shut_int Try.underlying3 w1) (trodAll_cons_mk (shut_int Try.underlying3 w2) (trodAll_cons_mk (Below.trod laidOut (by kernel_rfl) (of_decide_eq_true (by kernel_rfl)) kk3 bel lt3) trodAll_mk0)))), rfl, bel.frame _, fun h => by cases h⟩

theorem over : Rows.virtqPlaysRow.holds Try.pinned (OpenSpec.ofChange Rows.virtqPlaysSpec) :=
  OpenClaim.holds_of_wide 5 Try.f5 rfl rfl rfl rfl rfl rfl rfl ⟨rfl, rfl, rfl, rfl, rfl⟩ rfl rfl rfl rfl rfl (by kernel_rfl) Try.func5 (by kernel_rfl)
    (of_decide_eq_true (by kernel_rfl)) (by unfold Func.isWrapper; first | (rw [if_pos (by decide +kernel)]; kernel_rfl) | (rw [if_neg (by decide +kernel)]; exact ⟨rfl, rfl⟩))
    (fun os started H enc _ => lifted os started H enc)

theorem proved : Rows.VirtqPlaysSaid := over
end Go.Proofs.Ytnniipeoahpkcaa.virtqPlays
