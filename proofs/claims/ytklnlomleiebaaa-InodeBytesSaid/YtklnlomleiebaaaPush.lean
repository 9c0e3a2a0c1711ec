/- append of one element onto a slice that is owned; what stood there from the start; arguments that are rows of integers. No condition beside the room they ask for. -/
import Derived.Test.YtklnlomleiebaaaOps
import Derived.Test.YtklnlomleiebaaaAuto
namespace Go.Proofs.Ytklnlomleiebaaa
set_option linter.unusedVariables false
set_option linter.unusedSimpArgs false
open Go.RowKit

section
variable {P : Program} {w : World} {l : List HP} {T bytes : Nat} {v y : Value} {xs zs : List Value}

/-- append(v, y): the one-element row was just made -/
theorem wpList_push_sl {ops : Array Oper} {rest : List Oper} {o : Oper} {a : Act} {Q : Exit → Act → World → Prop} (hgd : o.guard = none) (s x : Operand) {t : Nat}
    (ho : o.op = .call { callee := .builtin .append, args := #[s, x], argTypes := #[t, t] }) (E : ElemOk P t T 1 bytes zs) (hbp : 0 < bytes)
    (hs : a.eval s = v) (h : SatL w (Sl T v xs :: l)) (hy : a.eval x = .slice (some ⟨w.heap.size, 0, none⟩) 1 1)
    (h1 : y.oneCell' = true) (hb : (xs.length + 1) * bytes ≤ 140737488355328)
    (K : ∀ v' w', SatL w' (Sl T v' (xs ++ [y]) :: l) → wpList P ops Q rest (a.put o.dst v') w') : wpList P ops Q (o :: rest) a (w.alloc (.cells #[y] T)) := by
  have al := h.alloc (.cells #[y] T)
  refine wpList_append_sl hgd s x ho E hs (Sl.toK al.swap rfl) hy (SrcOk.ofCl (n := 1) E.under al rfl 1) (by simpa using h1) hb ?_ ?_
  · unfold maxLen
    have : xs.length + 1 ≤ (xs.length + 1) * bytes := Nat.le_mul_of_pos_right _ hbp
    omega
  · intro v' w' h6 _
    exact K v' w' (Sl.ofK h6).swap.tail
theorem wpList_pushN_sl {ops : Array Oper} {rest : List Oper} {o : Oper} {a : Act} {Q : Exit → Act → World → Prop} {nb : Nat} (hnb : nb = w.heap.size) (hgd : o.guard = none) (s x : Operand) {t : Nat}
    (ho : o.op = .call { callee := .builtin .append, args := #[s, x], argTypes := #[t, t] }) (E : ElemOk P t T 1 bytes zs) (hbp : 0 < bytes)
    (hs : a.eval s = v) (h : SatL w (Sl T v xs :: l)) (hy : a.eval x = .slice (some ⟨nb, 0, none⟩) 1 1)
    (h1 : y.oneCell' = true) (hb : (xs.length + 1) * bytes ≤ 140737488355328)
    (K : ∀ v' w', SatL w' (Sl T v' (xs ++ [y]) :: l) → wpList P ops Q rest (a.put o.dst v') w') : wpList P ops Q (o :: rest) a (w.alloc (.cells #[y] T)) := by
  subst hnb; exact wpList_push_sl hgd s x ho E hbp hs h hy h1 hb K
theorem step_push_sl {ops : Array Oper} {o : Oper} {a : Act} {K : Act → World → Prop} {Q : Exit → Act → World → Prop} {X : Prop} (hgd : o.guard = none) (s x : Operand) {t : Nat}
    (ho : o.op = .call { callee := .builtin .append, args := #[s, x], argTypes := #[t, t] }) (E : ElemOk P t T 1 bytes zs) (hbp : 0 < bytes)
    (hs : a.eval s = v) (h : SatL w (Sl T v xs :: l)) (hy : a.eval x = .slice (some ⟨w.heap.size, 0, none⟩) 1 1)
    (h1 : y.oneCell' = true) (hb : (xs.length + 1) * bytes ≤ 140737488355328)
    (H : ∀ v' w', SatL w' (Sl T v' (xs ++ [y]) :: l) → K (a.put o.dst v') w') :
    if Region.wanted o (yielded ops a.tmps) = true then Oper.wp P o a (w.alloc (.cells #[y] T)).drew K Q else X := by
  have al := sat_drew.2 (h.alloc (.cells #[y] T))
  refine step_append_sl hgd s x ho E hs (Sl.toK al.swap rfl) hy (SrcOk.ofCl (n := 1) E.under al rfl 1) (by simpa using h1) hb ?_ ?_
  · unfold maxLen
    have : xs.length + 1 ≤ (xs.length + 1) * bytes := Nat.le_mul_of_pos_right _ hbp
    omega
  · intro v' w' h6 _
    exact H v' w' (Sl.ofK h6).swap.tail

/-- what stood there from the start stands there yet -/
theorem SatL.oldCell {w0 : World} (h : SatL w (old w0 :: l)) {p : Addr} {x : Value} (hp : w0.cell? p = some x) : w.cell? p = some x :=
  (h.below.cell (World.block_lt_of_cell? w0 _ hp)).trans hp
end

def IsInts (w : World) (a : Option Addr) (len cap : Nat) (zs : List Int) : Prop :=
  (a = none ∧ len = 0 ∧ cap = 0 ∧ zs = []) ∨
  ∃ x, a = some x ∧ len ≤ cap ∧ cap ≤ maxLen ∧ zs.length = cap ∧ (∀ i, i < zs.length → w.cell? (x.add i) = some (.int .i64 (zs.getD i 0))) ∧ ∀ n ∈ zs, (Lit.int .i64 n).wf = true
theorem IsInts.at {w : World} {a : Option Addr} {len cap : Nat} {zs : List Int} (h : IsInts w a len cap zs) (hl : 0 < len) :
    ∃ b o, a = some ⟨b, o, none⟩ ∧ ∀ i, i < len → w.cell? ⟨b, o + i, none⟩ = some (.int .i64 (zs.getD i 0)) := by
  rcases h with ⟨_, h, _⟩ | ⟨⟨b, o, s⟩, rfl, h1, _, h2, h3, _⟩
  · omega
  · have h0 := h3 0 (by omega)
    have hs : s = none := by
      cases s with
      | none => rfl
      | some q => simp [Addr.add, World.cell?] at h0; split at h0 <;> simp at h0
    subst hs
    exact ⟨b, o, rfl, fun i hi => by rw [← addr_add]; exact h3 i (by omega)⟩
theorem IsInts.len {w : World} {a : Option Addr} {len cap : Nat} {zs : List Int} (h : IsInts w a len cap zs) : len ≤ 9223372036854775807 := by
  rcases h with ⟨_, h, _⟩ | ⟨x, _, h, h', _⟩
  · omega
  · unfold maxLen at h'; omega
end Go.Proofs.Ytklnlomleiebaaa
