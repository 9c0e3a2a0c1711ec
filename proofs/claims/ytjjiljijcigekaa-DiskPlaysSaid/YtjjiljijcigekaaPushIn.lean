/- append onto a slice that is owned, in a walk within a fence (a round of a range over a function). No condition beside the room. -/
import Derived.Test.YtjjiljijcigekaaSeq
namespace Go.Proofs.Ytjjiljijcigekaa
set_option linter.unusedVariables false
set_option linter.unusedSimpArgs false
open Go.RowKit

section
variable {F : Fence} {nF : Nat} {P : Program} {w : World} {l : List HP} {T bytes k n : Nat} {v y : Value} {xs zs : List Value}
theorem wpListIn_append_sl {ops : Array Oper} {rest : List Oper} {o : Oper} {a : Act} {Q : Exit → Act → World → Prop} (hgd : o.guard = none) (s x : Operand) {t u : Nat}
    (ho : o.op = .call { callee := .builtin .append, args := #[s, x], argTypes := #[t, u] }) (E : ElemOk P t T k bytes zs)
    (hs : a.eval s = v) (h : SatL w (SlK T k v n xs :: l)) {y : Value} (hy : a.eval x = y) {m : Nat} {ys : List Value} (hx : SrcOk P u k w y m ys)
    (h1 : ∀ y ∈ ys, y.oneCell' = true) (hb : (n + m) * bytes ≤ 140737488355328) (h63 : n + m ≤ maxLen)
    (K : ∀ v' w', SatL w' (SlK T k v' (n + m) (xs ++ ys) :: l) → wpListIn F nF P ops Q rest (a.put o.dst v') w') : wpListIn F nF P ops Q (o :: rest) a w := by
  refine wpListIn_plain hgd fun K2 hK => ?_
  obtain ⟨v', w', hr, h2, h3⟩ := run_append_sl (ty := o.type) E h hx h1 hb h63
  unfold Oper.wpIn
  refine ⟨by simp [Oper.about, ho, resolve, Target.leads, Sem.run_pure], ?_⟩
  rw [Oper.semAt_plain F _ _ (by rw [ho]; intro c hc'; cases hc')]
  simp [execOp, ho, resolve, invoke, builtin, hs, hy, hr, Result.andThen]
  exact hK _ _ (K v' w' h2)
theorem wpListIn_push_sl {ops : Array Oper} {rest : List Oper} {o : Oper} {a : Act} {Q : Exit → Act → World → Prop} {nb : Nat} (hnb : nb = w.heap.size) (hgd : o.guard = none) (s x : Operand) {t : Nat}
    (ho : o.op = .call { callee := .builtin .append, args := #[s, x], argTypes := #[t, t] }) (E : ElemOk P t T 1 bytes zs) (hbp : 0 < bytes)
    (hs : a.eval s = v) (h : SatL w (Sl T v xs :: l)) (hy : a.eval x = .slice (some ⟨nb, 0, none⟩) 1 1)
    (h1 : y.oneCell' = true) (hb : (xs.length + 1) * bytes ≤ 140737488355328)
    (K : ∀ v' w', SatL w' (Sl T v' (xs ++ [y]) :: l) → wpListIn F nF P ops Q rest (a.put o.dst v') w') : wpListIn F nF P ops Q (o :: rest) a (w.alloc (.cells #[y] T)) := by
  subst hnb
  have al := h.alloc (.cells #[y] T)
  refine wpListIn_append_sl hgd s x ho E hs (Sl.toK al.swap rfl) hy (SrcOk.ofCl (n := 1) E.under al rfl 1) (by simpa using h1) hb ?_ ?_
  · unfold maxLen
    have : xs.length + 1 ≤ (xs.length + 1) * bytes := Nat.le_mul_of_pos_right _ hbp
    omega
  · intro v' w' h6
    exact K v' w' (Sl.ofK h6).swap.tail
end
end Go.Proofs.Ytjjiljijcigekaa
