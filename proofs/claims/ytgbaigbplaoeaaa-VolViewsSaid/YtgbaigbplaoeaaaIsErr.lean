/- errors.Is at errors that are numbers. -/
import Derived.Test.YtgbaigbplaoeaaaChecked
import Derived.Test.YtgbaigbplaoeaaaSl
import Derived.LaidEql
import Derived.Stop.Asserts
import Derived.RowKitTokens
namespace Go.Proofs.Ytgbaigbplaoeaaa
set_option linter.unusedVariables false
set_option linter.unusedSimpArgs false
open Go.RowKit Go.Extern.Stop Go.Stop Go.Extern
section
variable {P : Program} (w : World)
theorem run_equalIn_iface_int (d : Nat) {ti tn : TypeId} {ms : Array (String × TypeId)} {i : TypeInfo} {k : IntKind} (a b : Int)
    (hi : P.underlying ti = some (.interface ms)) (hn : P.underlying tn = some (.int k)) (hinfo : P.info? tn = some i) (hcomp : i.comparable = true) :
    (Op.equalIn (d + 2) ti (.iface tn (.int k a)) (.iface tn (.int k b))).run P w = .ok (a == b) w := by
  simp [Op.equalIn, run_underlying hi, run_underlying hn, typeInfo, hinfo, hcomp]
/-- '==' of two errors that are numbers of one type -/
theorem run_eql_iface_int {ti tn : TypeId} {ms : Array (String × TypeId)} {i : TypeInfo} {k : IntKind} (a b : Int)
    (hi : P.underlying ti = some (.interface ms)) (hn : P.underlying tn = some (.int k)) (hinfo : P.info? tn = some i) (hcomp : i.comparable = true) :
    (binOp .eql ti (.iface tn (.int k a)) (.iface tn (.int k b))).run P w = .ok (.bool (a == b)) w := by
  simp only [binOp]
  simp [Op.equal, Op.maxDepth, run_equalIn_iface_int w 9998 a b hi hn hinfo hcomp]
end
/-- what Comparable does -/
def cmpM : Array Value → Sem Value := Extern.ReflectliteType.method fun t => do Go.Extern.Rtype.noPackHeld "Comparable" t; pure (.bool (← typeInfo t).comparable)
theorem isTypeOf (v : Value) (w : World) : (Extern.ReflectliteType.typeOf #[.iface 31 v]).run Try.prog w = .ok (.iface 127 (.agg #[.pointer (some ⟨0, 31, none⟩)])) w := by kernel_rfl
theorem isComparable (w : World) : (cmpM #[.agg #[.pointer (some ⟨0, 31, none⟩)]]).run Try.prog w = .ok (.bool true) w := by kernel_rfl
theorem isMethodComparable (v : Value) (w : World) : (Go.method 293 127 v "Comparable").run Try.prog w = .ok (114, v) w := by kernel_rfl
theorem isComp : (Try.prog.info? 31).map (·.comparable) = some true := by kernel_rfl
theorem noIsE (v : Value) (xT : TypeId) (w : World) : (Instr.typeAssert (.iface 31 v) xT 129 true).run Try.prog w = .ok (.tuple #[.nilIface, .bool false]) w := run_typeAssert_lacksB Try.underlying129 (by kernel_rfl) (by kernel_rfl) v xT w
theorem noUnwrapE (v : Value) (xT : TypeId) (w : World) : (Instr.typeAssert (.iface 31 v) xT 132 true).run Try.prog w = .ok (.tuple #[.nilIface, .bool false]) w := run_typeAssert_lacksB Try.underlying132 (by kernel_rfl) (by kernel_rfl) v xT w
theorem noUnwrapsE (v : Value) (xT : TypeId) (w : World) : (Instr.typeAssert (.iface 31 v) xT 134 true).run Try.prog w = .ok (.tuple #[.nilIface, .bool false]) w := run_typeAssert_lacksB Try.underlying134 (by kernel_rfl) (by kernel_rfl) v xT w

abbrev errno (n : Int) : Value := .iface 31 (.int .i64 n)

set_option maxRecDepth 100000 in
set_option maxHeartbeats 1000000 in
/-- errors.Is of two numbers -/
theorem is_num (a b : Int) (w : World) : Calls Try.prog 45 #[errno a, errno b] w fun e w' => e = .returned (.bool (a == b)) ∧ w = w' := by
  obtain ⟨i, hi, hcmp⟩ := Option.map_eq_some_iff.1 isComp
  have h8 := @run_callFunc_extern Try.prog 63 _ Extern.ReflectliteType.typeOf Try.func63 (by kernel_rfl) (by kernel_rfl) (by kernel_rfl) (by kernel_rfl)
  have h32 := @run_callFunc_extern Try.prog 114 _ cmpM Try.func114 (by kernel_rfl) (by kernel_rfl) (by kernel_rfl) (by kernel_rfl)
  have tT := isTypeOf
  have cT := isComparable
  have mR := isMethodComparable
  have nE := noIsE
  have uE := noUnwrapE
  have vE := noUnwrapsE
  have heq := run_eql_iface_int (P := Try.prog) w a b Try.underlying51 Try.underlying31 hi hcmp
  by_cases hab : a = b
  · subst hab
    have e1 : (a == a) = true := by simp
    rw [e1] at heq
    rw [e1]
    go_enter Try.func45, Try.ntmps45
    go_wp2
    refine wp_loop_rounds 1 ?_
    rw [rounds_succ]
    go_wp2
    go_ret
    exact ⟨rfl, rfl⟩
  · have e1 : (a == b) = false := by simpa using hab
    clear hab
    rw [e1] at heq
    rw [e1]
    go_enter Try.func45, Try.ntmps45
    go_wp2
    refine wp_loop_rounds 1 ?_
    rw [rounds_succ]
    go_wp2
    go_ret
    exact ⟨rfl, rfl⟩

/-- Is of the laws: an error that is a number, or none -/
theorem isN_ok {a n : Int} (hn : n ≠ 0) (w : World) : Calls Try.prog 21 #[errno a, .int .i64 n] w fun e w' => e = .returned (.bool (a == n)) ∧ w = w' := by
  have h1 : (n == 0) = false := by simpa using hn
  have hi := fun (w : World) => is_num a n w
  generalize hc : (a == n) = c at *
  clear hc
  go_enter Try.func21, Try.ntmps21
  go_wp2_with (go_at_call 45; (with_reducible refine (hi _).mono ?_); rintro e w1 ⟨rfl, rfl⟩)
  go_ret
  exact ⟨rfl, rfl⟩
theorem isNil_ok {n : Int} (hn : n ≠ 0) (w : World) : Calls Try.prog 21 #[.nilIface, .int .i64 n] w fun e w' => e = .returned (.bool false) ∧ w = w' := by
  have h1 : (n == 0) = false := by simpa using hn
  go_enter Try.func21, Try.ntmps21
  go_wp2
  go_ret
  exact ⟨rfl, rfl⟩
theorem isOk_nil (w : World) : Calls Try.prog 21 #[.nilIface, .int .i64 0] w fun e w' => e = .returned (.bool true) ∧ w = w' := by
  go_enter Try.func21, Try.ntmps21
  go_wp2
  go_ret
  exact ⟨rfl, rfl⟩
theorem isOk_no (a : Int) (w : World) : Calls Try.prog 21 #[errno a, .int .i64 0] w fun e w' => e = .returned (.bool false) ∧ w = w' := by
  go_enter Try.func21, Try.ntmps21
  go_wp2
  go_ret
  exact ⟨rfl, rfl⟩
end Go.Proofs.Ytgbaigbplaoeaaa
