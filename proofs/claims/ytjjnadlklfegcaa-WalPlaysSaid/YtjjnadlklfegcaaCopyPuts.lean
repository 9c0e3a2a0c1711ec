/- append([]api.Put{}, x...), and one block more, inside a region that draws its order. No condition. -/
import Derived.Test.YtjjnadlklfegcaaLaw8C
namespace Go.Proofs.Ytjjnadlklfegcaa
set_option linter.unusedVariables false
set_option linter.unusedSimpArgs false
open Go.RowKit

section
variable {w : World} {L : List HP}
theorem pcells_one : ∀ {ps : List Pt}, (∀ p ∈ ps, PtSl p) → ∀ y ∈ pcells ps, y.oneCell' = true := by
  intro ps
  induction ps with
  | nil => intro _ y hy; exact absurd hy (by simp [pcells])
  | cons p ps ih =>
    intro h y hy
    have e : pcells (p :: ps) = .int .i64 p.b :: p.v :: pcells ps := rfl
    rw [e] at hy
    rcases List.mem_cons.1 hy with rfl | hy
    · rfl
    rcases List.mem_cons.1 hy with rfl | hy
    · obtain ⟨a, c, hv, _⟩ := h p (by simp)
      rw [hv]; rfl
    · exact ih (fun q hq => h q (List.mem_cons_of_mem _ hq)) y hy
theorem step_copyPuts {ops : Array Oper} {o : Oper} {a : Act} {K : Act → World → Prop} {Q : Exit → Act → World → Prop} {X : Prop} {nb : Nat} {v : Value} {ps : List Pt} (hgd : o.guard = none) (s x : Operand)
    (ho : o.op = .call { callee := .builtin .append, args := #[s, x], argTypes := #[25, 25] }) (hs : a.eval s = .slice (some ⟨nb, 0, none⟩) 0 0) (hy : a.eval x = v)
    (h : SatL w (SlK 29 2 (.slice (some ⟨nb, 0, none⟩) 0 0) 0 [] :: PutsR v ps :: L)) (hl : ps.length ≤ 1000000)
    (H : ∀ v' w', SatL w' (PutsR v' ps :: L) → K (a.put o.dst v') w') :
    if Region.wanted o (yielded ops a.tmps) = true then Oper.wp Try.prog o a w K Q else X := by
  have hp := sat_PutsR.1 h.swap
  refine step_append_sl hgd s x ho elem_put hs h hy (SrcOk.ofK elem_put.under hp) (pcells_one (PutsR.ptsl h.swap)) (by omega) (by unfold maxLen; omega) ?_
  intro v' w' h2 _
  refine H v' w' (sat_PutsR.2 ?_)
  rw [Nat.zero_add, List.nil_append] at h2
  exact (SatL.tail (sat_PutsR.1 h2.swap)).swap
theorem step_onePut_new {ops : Array Oper} {o : Oper} {a : Act} {K : Act → World → Prop} {Q : Exit → Act → World → Prop} {X : Prop} {nb : Nat} {v u : Value} {ps : List Pt} {b : Int} {d : List UInt8} (hnb : nb = w.heap.size) (hgd : o.guard = none) (s x : Operand)
    (ho : o.op = .call { callee := .builtin .append, args := #[s, x], argTypes := #[25, 25] }) (hs : a.eval s = v) (hy : a.eval x = .slice (some ⟨nb, 0, none⟩) 1 1)
    (hu : u.oneCell' = true) (h : SatL w (PutsR v ps :: SlB 5 u d :: L)) (hl : ps.length ≤ 1000000)
    (H : ∀ v' w', SatL w' (PutsR v' (ps ++ [⟨b, u, d⟩]) :: L) → K (a.put o.dst v') w') :
    if Region.wanted o (yielded ops a.tmps) = true then Oper.wp Try.prog o a (w.alloc (.cells #[.int .i64 b, u] 29)) K Q else X := by
  refine step_pushK_sl hnb hgd s x ho elem_put (by omega) hs (sat_PutsR.1 h) hy rfl (by intro y hy; simp at hy; rcases hy with rfl | rfl <;> first | rfl | exact hu) (by omega) ?_
  intro v' w' h2
  exact H v' w' (PutsL.snoc h2)
theorem step_onePut_cl {ops : Array Oper} {o : Oper} {a : Act} {K : Act → World → Prop} {Q : Exit → Act → World → Prop} {X : Prop} {nb : Nat} {v u : Value} {ps : List Pt} {b : Int} {d : List UInt8} (hgd : o.guard = none) (s x : Operand)
    (ho : o.op = .call { callee := .builtin .append, args := #[s, x], argTypes := #[25, 25] }) (hs : a.eval s = v) (hy : a.eval x = .slice (some ⟨nb, 0, none⟩) 1 1)
    (hu : u.oneCell' = true) (h : SatL w (PutsR v ps :: pt nb (.cells #[.int .i64 b, u] 29) :: SlB 5 u d :: L)) (hl : ps.length ≤ 1000000)
    (H : ∀ v' w', SatL w' (PutsR v' (ps ++ [⟨b, u, d⟩]) :: L) → K (a.put o.dst v') w') :
    if Region.wanted o (yielded ops a.tmps) = true then Oper.wp Try.prog o a w K Q else X := by
  refine step_append_sl hgd s x ho elem_put hs (sat_PutsR.1 h) hy (SrcOk.ofCl (n := 1) elem_put.under (SatL.pull h 1 : SatL w (pt _ _ :: _)) rfl 1) (by intro y hy; simp at hy; rcases hy with rfl | rfl <;> first | rfl | exact hu) (by omega) (by unfold maxLen; omega) ?_
  intro v' w' h2 _
  exact H v' w' (PutsL.snoc (SatL.tail (h2.bring [2, 0, 1, 3])))
end
end Go.Proofs.Ytjjnadlklfegcaa
