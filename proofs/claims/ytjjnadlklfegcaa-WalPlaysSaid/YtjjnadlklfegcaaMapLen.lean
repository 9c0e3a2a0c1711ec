/- len of a map with int keys that is owned. No condition beside its size. -/
import Derived.Test.YtjjnadlklfegcaaMap
namespace Go.Proofs.Ytjjnadlklfegcaa
set_option linter.unusedVariables false
set_option linter.unusedSimpArgs false
open Go.RowKit

section
variable {P : Program} {w : World} {l : List HP} {t e b : Nat} {z : Value} {es : IM}
theorem run_maplen_sl {ty : Nat} (K : KeyInt P t e z) (h : SatL w (MapI b es :: l)) (hn : es.length ≤ 9223372036854775807) : (Builtin.len_ #[t] ty #[.map (some b)]).run P w = .ok (.int .i64 es.length) w := by
  obtain ⟨kt, hu, hkt⟩ := K.under
  obtain ⟨_, en, clock, hen, hst, hs⟩ := sat_MapI.1 h
  have hb := hs.heap
  have hl : en.size = es.length := by
    have := congrArg List.length hen
    simpa using this
  have hw : IntKind.i64.wrap (es.length : Int) = es.length := IntWalk.i64_in _ (by omega)
  simp [Builtin.len_, run_underlying hu, getObj, Sem.run, hb, goInt, hl, hw]
theorem wpList_maplen_sl {ops : Array Oper} {rest : List Oper} {o : Oper} {a : Act} {Q : Exit → Act → World → Prop} (hgd : o.guard = none) (x : Operand)
    (ho : o.op = .call { callee := .builtin .len, args := #[x], argTypes := #[t] }) (K : KeyInt P t e z) (hx : a.eval x = .map (some b)) (h : SatL w (MapI b es :: l)) (hn : es.length ≤ 9223372036854775807)
    (C : wpList P ops Q rest (a.put o.dst (.int .i64 es.length)) w) : wpList P ops Q (o :: rest) a w :=
  wpList_plain hgd fun _ hK => by
    have hr := run_maplen_sl (ty := o.type) K h hn
    unfold Oper.wp execOp
    simp only [ho, resolve, invoke, builtin, Sem.run_bind, Sem.run_pure, Result.andThen_ok, List.map_toArray, List.map_cons, List.map_nil, hx, hr]
    exact hK _ _ C
end
end Go.Proofs.Ytjjnadlklfegcaa
