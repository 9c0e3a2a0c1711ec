/- A map with int keys, said in the kit's words: what its keys are. -/
import Derived.Test.YtnniipeoahpkcaaMap
import Derived.Lib.SlKeysI
import Derived.Maps.Own
namespace Go.Proofs.Ytnniipeoahpkcaa
set_option linter.unusedVariables false
set_option linter.unusedSimpArgs false
open Go.RowKit

def anyElem : Value → Option (DataW Unit × List MemPlace) := fun _ => some (.nil, [])
section
variable {P : Program} {K : TypeId} {w : World} {L : List HP} {b : Nat} {es : IM}
theorem rg_int (hK : P.underlying K = some (.int .i64)) {x : MapEntry} {k : Int} (hx : x.key = .int .i64 k) (hw : (Lit.int .i64 k).wf = true) : WideElems.rd P K anyElem x = some (.int .i64 k, .nil) := by
  unfold WideElems.rd
  rw [hx, Maps.keyOf_int_mk hK hw]
  rfl
theorem MapI.owns (hK : P.underlying K = some (.int .i64)) (h : SatL w (MapI b es :: L)) (hk : ∀ k ∈ mkeys es, (Lit.int .i64 k).wf = true) (hn : es.length ≤ maxLen) :
    ∃ D : DataW Unit, w.ownsMap P K anyElem b es.length D ∧ (intKeys D).Perm (mkeys es) ∧ Maps.size D = es.length := by
  obtain ⟨h1, h2, ⟨nd, en, clock, e, st, hp⟩, a2, a3, a4, a5⟩ := h
  have hh : w.heap[b]? = some (.map en clock) := SatL.heap (w := w) (l := L) ⟨h1, h2, hp, a2, a3, a4, a5⟩
  have hlen : en.toList.length = es.length := by have := congrArg List.length e; simpa using this
  have hkeys : en.toList.map (·.key) = es.map (fun p => Value.int .i64 p.1) := by
    have := congrArg (List.map Prod.fst) e
    simpa [List.map_map, Function.comp_def] using this
  have hread : ∀ x ∈ en.toList, ∃ k, x.key = .int .i64 k ∧ k ∈ mkeys es := by
    intro x hx
    have : x.key ∈ en.toList.map (·.key) := List.mem_map.2 ⟨x, hx, rfl⟩
    rw [hkeys] at this
    obtain ⟨p, hp, e2⟩ := List.mem_map.1 this
    exact ⟨p.1, e2.symm, List.mem_map.2 ⟨p, hp, rfl⟩⟩
  have hfit : WideElems.Fit P K anyElem en clock := by
    refine ⟨by rw [← Array.length_toList, hlen]; exact hn, ⟨st.2, st.1, ?_⟩, ?_⟩
    · rw [hkeys]
      have : es.map (fun p => Value.int .i64 p.1) = (mkeys es).map (Value.int .i64) := by simp [mkeys, List.map_map, Function.comp_def]
      rw [this]
      exact List.Pairwise.map _ (fun a b hab e => hab (by injection e)) nd
    · intro x hx
      obtain ⟨k, hkx, hm⟩ := hread x hx
      exact ⟨_, rg_int hK hkx (hk k hm)⟩
  have hrg : (en.toList.map (WideElems.rg P K anyElem)).map (fun p => Go.intOf p.1) = mkeys es := by
    rw [List.map_map]
    have e3 : (mkeys es).map (Value.int .i64) = en.toList.map (·.key) := by rw [hkeys]; simp [mkeys, List.map_map, Function.comp_def]
    have e4 : (en.toList.map ((fun p : Lit × DataW Unit => Go.intOf p.1) ∘ WideElems.rg P K anyElem)).map (Value.int .i64) = (mkeys es).map (Value.int .i64) := by
      rw [e3, List.map_map]
      apply List.map_congr_left
      intro x hx
      obtain ⟨k, hkx, hm⟩ := hread x hx
      simp only [Function.comp_apply, WideElems.rg, rg_int hK hkx (hk k hm), Option.getD_some, Go.intOf, hkx]
    have inj : ∀ (a c : List Int), a.map (Value.int .i64) = c.map (Value.int .i64) → a = c := by
      intro a
      induction a with
      | nil => intro c hc; cases c with | nil => rfl | cons y c => simp at hc
      | cons x a ih => intro c hc; cases c with
        | nil => simp at hc
        | cons y c => simp only [List.map_cons, List.cons.injEq, Value.int.injEq, true_and] at hc; rw [hc.1, ih c hc.2]
    exact inj _ _ e4
  refine ⟨.map ((en.toList.map (WideElems.rg P K anyElem)).foldr DataW.insert []), ⟨en, clock, hh, hfit, by rw [← Array.length_toList, hlen]; exact Nat.le_refl _, rfl⟩, ?_, ?_⟩
  · rw [← hrg]
    exact (Go.WideShapes.sorted_perm _).map _
  · show ((en.toList.map (WideElems.rg P K anyElem)).foldr DataW.insert []).length = _
    rw [(Go.WideShapes.sorted_perm _).length_eq, List.length_map, hlen]
end
end Go.Proofs.Ytnniipeoahpkcaa
