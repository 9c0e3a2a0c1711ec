/- copy(s[i:], x) into a slice that is owned. No condition. -/
import Derived.Test.YtklnlomleiebaaaStore
namespace Go.Proofs.Ytklnlomleiebaaa
set_option linter.unusedVariables false
set_option linter.unusedSimpArgs false
open Go.RowKit

section
variable {P : Program} {w : World} {l : List HP} {T bytes : Nat} {v : Value} {xs ys zs : List Value}

theorem run_copy_sl {t u ty : Nat} (E : ElemOk P t T 1 bytes zs) {b off n cap : Nat} (h : SatL w (Sl T (.slice (some ⟨b, off, none⟩) n cap) xs :: l)) {i c d : Nat} {x : Value} {m : Nat} (hx : SrcOk P u 1 w x m ys)
    (h1 : ∀ y ∈ ys, y.oneCell' = true) (him : i + m ≤ n) (hmd : m ≤ d) :
    ∃ w', (Builtin.copy_ #[t, u] ty #[.slice (some ⟨b, off + i, none⟩) d c, x]).run P w = .ok (.int .i64 m) w' ∧ SatL w' (Sl T (.slice (some ⟨b, off, none⟩) n cap) (xs.take i ++ ys ++ xs.drop (i + m)) :: l) := by
  obtain ⟨j, z', hj, hz, hj1, _⟩ := E.info
  have hlen := hx.lenOf (P := P)
  have hcells := hx.cells (P := P)
  have hyl : ys.length = m := by have := hx.1; omega
  obtain ⟨hnx, hnc, hcm⟩ := Sl.lenEq h
  subst hnx
  rcases sat_SlK.1 h with ⟨h0, _⟩ | ⟨b', off', cap', arr, ⟨h0, h2, h3, h4, h5, h6⟩, hs⟩
  · cases h0
  · cases h0
    have hmin : Nat.min m d = m := Nat.min_eq_left hmd
    have hw0 : IntKind.i64.wrap (m : Int) = m := IntWalk.i64_in _ (by unfold maxLen at hcm; omega)
    have hst := run_storeCells_at P b (off + i) T ys 0 arr w hs.heap (by simp; omega) h1
    refine ⟨w.setRow b (arr.toList.take (off + i) ++ ys ++ arr.toList.drop (off + i + m)).toArray, ?_, ?_⟩
    · simp only [Nat.add_zero, hyl] at hst
      simp [Builtin.copy_, run_underlying E.under, sizeOf, typeInfo, hj, hj1, hlen, hmin, hcells, hst, goInt, hw0]
    · refine Sl.ofK (n := xs.length) (sat_SlK.2 (.inr ⟨b, off, cap, _, ⟨rfl, by omega, h3, by simp; omega, ?_, ?_⟩, hs.setRow _⟩))
      · simp; omega
      · have e1 : (arr.toList.take (off + i)).drop off = xs.take i := by rw [List.drop_take, ← h6, List.take_take]; congr 1; omega
        have h6' : (arr.toList.drop off).take xs.length = xs := by simpa using h6
        have e2 : (arr.toList.drop (off + i + m)).take (xs.length - (i + m)) = xs.drop (i + m) := by
          conv => rhs; rw [← h6']
          rw [List.drop_take, List.drop_drop, show off + (i + m) = off + i + m by omega]
        simp only [Nat.mul_one]
        rw [List.append_assoc, List.drop_append_of_le_length (by simp; omega), e1]
        have e3 : xs.length = (xs.take i ++ ys).length + (xs.length - (i + m)) := by simp; omega
        rw [← List.append_assoc]
        conv => lhs; rw [e3]
        rw [List.take_length_add_append, e2]

theorem wpList_copy_sl {ops : Array Oper} {rest : List Oper} {o : Oper} {a : Act} {Q : Exit → Act → World → Prop} (hgd : o.guard = none) (s x : Operand) {t u : Nat}
    (ho : o.op = .call { callee := .builtin .copy, args := #[s, x], argTypes := #[t, u] }) (E : ElemOk P t T 1 bytes zs) {b off n cap i c d : Nat} (hs : a.eval s = .slice (some ⟨b, off + i, none⟩) d c)
    (h : SatL w (Sl T (.slice (some ⟨b, off, none⟩) n cap) xs :: l)) {y : Value} (hy : a.eval x = y) {m : Nat} (hx : SrcOk P u 1 w y m ys)
    (h1 : ∀ y ∈ ys, y.oneCell' = true) (him : i + m ≤ n) (hmd : m ≤ d)
    (K : ∀ w', SatL w' (Sl T (.slice (some ⟨b, off, none⟩) n cap) (xs.take i ++ ys ++ xs.drop (i + m)) :: l) → wpList P ops Q rest (a.put o.dst (.int .i64 m)) w') : wpList P ops Q (o :: rest) a w :=
  wpList_plain hgd fun _ hK => by
    obtain ⟨w', hr, h2⟩ := run_copy_sl (ty := o.type) (c := c) (d := d) E h hx h1 him hmd
    unfold Oper.wp execOp
    simp only [ho, resolve, invoke, builtin, Sem.run_bind, Sem.run_pure, Result.andThen_ok, List.map_toArray, List.map_cons, List.map_nil, hs, hy, hr]
    exact hK _ _ (K w' h2)
end
end Go.Proofs.Ytklnlomleiebaaa
