/- errors.Is at an error of rpc and its number; Error of both. No condition. -/
import Derived.Test.YtpecmkkcepnpeaaDoorIsErr
import Derived.Test.YtpecmkkcepnpeaaDoorRpcR
namespace Go.Proofs.YtpecmkkcepnpeaaDoor
set_option linter.unusedVariables false
set_option linter.unusedSimpArgs false
open Go.RowKit Go.Extern.Stop Go.Stop Go.Extern
abbrev wrongE (nb : Nat) : Value := .iface 53 (.pointer (some ⟨nb, 0, none⟩))
theorem noIsW (v : Value) (xT : TypeId) (w : World) : (Instr.typeAssert (.iface 53 v) xT 160 true).run Tryd.prog w = .ok (.tuple #[.nilIface, .bool false]) w := run_typeAssert_lacksB Tryd.underlying160 (by kernel_rfl) (by kernel_rfl) v xT w
theorem hasUnwrapW (v : Value) (xT : TypeId) (w : World) : (Instr.typeAssert (.iface 53 v) xT 147 true).run Tryd.prog w = .ok (.tuple #[.iface 53 v, .bool true]) w := run_typeAssert_hasB Tryd.underlying147 (by kernel_rfl) v xT w
theorem wUnwrap (a : Addr) (w : World) : (Go.method 296 53 (.pointer (some a)) "Unwrap").run Tryd.prog w = .ok (104, .pointer (some a)) w := by kernel_rfl
theorem wError (a : Addr) (w : World) : (Go.method 296 53 (.pointer (some a)) "Error").run Tryd.prog w = .ok (103, .pointer (some a)) w := by kernel_rfl
theorem eql_we (a : Addr) (n : Int) (w : World) : (binOp .eql 32 (.iface 53 (.pointer (some a))) (.iface 42 (.int .i64 n))).run Tryd.prog w = .ok (.bool false) w := by
  exact run_eql_iface_types _ _ _ _ Tryd.underlying32 (by decide) w
section
variable {w : World} {L : List HP}
theorem unwrap_ok {nb : Nat} {e : Int} {bs : List UInt8} (h : SatL w (WrongR nb e bs :: L)) : Calls Tryd.prog 104 #[.pointer (some ⟨nb, 0, none⟩)] w fun r w' => r = .returned (errno e) ∧ w = w' := by
  obtain ⟨v, h0⟩ := sat_WrongR.1 h
  have c0 := SatL.cell (h0 : SatL w (cl _ _ _ :: _)) (i := 0) (v := .int .i64 e) rfl
  clear h h0
  go_enter Tryd.func104, Tryd.ntmps104
  go_wp2
  go_ret
  exact ⟨rfl, rfl⟩
set_option maxRecDepth 100000 in
set_option maxHeartbeats 1000000 in
theorem isw_ok {nb : Nat} {e : Int} {bs : List UInt8} (h : SatL w (WrongR nb e bs :: L)) : Calls Tryd.prog 31 #[wrongE nb, errno e] w fun r w' => r = .returned (.bool true) ∧ w = w' := by
  obtain ⟨i, hi, hcmp⟩ := Option.map_eq_some_iff.1 isComp
  have h8 := @run_callFunc_extern Tryd.prog 59 _ Extern.ReflectliteType.typeOf Tryd.func59 (by kernel_rfl) (by kernel_rfl) (by kernel_rfl) (by kernel_rfl)
  have h32 := @run_callFunc_extern Tryd.prog 113 _ cmpM Tryd.func113 (by kernel_rfl) (by kernel_rfl) (by kernel_rfl) (by kernel_rfl)
  have tT := isTypeOf
  have cT := isComparable
  have mR := isMethodComparable
  have nW := noIsW
  have hW := hasUnwrapW
  have mW := wUnwrap ⟨nb, 0, none⟩
  have nE := noIsE
  have kU := unwrap_ok h
  have hew := eql_we ⟨nb, 0, none⟩ e w
  have heq := run_eql_iface_int (P := Tryd.prog) w e e Tryd.underlying32 Tryd.underlying42 hi hcmp
  have e1 : (e == e) = true := by simp
  rw [e1] at heq
  clear h
  go_enter Tryd.func31, Tryd.ntmps31
  go_wp2
  refine wp_loop_rounds 2 ?_
  rw [rounds_succ]
  go_wp2_with (go_at_call 104; (with_reducible refine kU.mono ?_); rintro r w1 ⟨rfl, rfl⟩)
  rw [rounds_succ]
  go_wp2
  go_ret
  exact ⟨rfl, rfl⟩
/-- the words of a call's errors -/
def errS (e : Int) : ByteArray := if e = 31 then ⟨#[114, 112, 99]⟩ else if e = 32 then ⟨#[97, 117, 116, 104]⟩ else if e = 34 then ⟨#[112, 114, 111, 103]⟩ else if e = 35 then ⟨#[118, 101, 114, 115]⟩ else ⟨#[112, 114, 111, 99]⟩
theorem errno_err {e : Int} (he : e = 31 ∨ e = 32 ∨ e = 34 ∨ e = 35 ∨ e = 36) (w : World) : Calls Tryd.prog 32 #[.int .i64 e] w fun r w' => r = .returned (.string (errS e)) ∧ w = w' := by
  have hw : Calls Tryd.prog 63 #[.int .i64 e] w fun r w' => r = .returned (.string (errS e)) ∧ w = w' := by
    rcases he with rfl | rfl | rfl | rfl | rfl
    all_goals
      go_enter Tryd.func63, Tryd.ntmps63
      go_wp2
      go_ret
      exact ⟨rfl, rfl⟩
  rcases he with rfl | rfl | rfl | rfl | rfl
  all_goals
    go_enter Tryd.func32, Tryd.ntmps32
    go_wp2_with (go_at_call 63; (with_reducible refine hw.mono ?_); rintro r w1 ⟨rfl, rfl⟩)
    go_ret
    exact ⟨rfl, rfl⟩
theorem werror_ok {nb : Nat} {e : Int} {bs : List UInt8} (he : e = 31 ∨ e = 32 ∨ e = 34 ∨ e = 35 ∨ e = 36) (h : SatL w (WrongR nb e bs :: L)) : Calls Tryd.prog 103 #[.pointer (some ⟨nb, 0, none⟩)] w fun r w' => r = .returned (.string (errS e)) ∧ w = w' := by
  obtain ⟨v, h0⟩ := sat_WrongR.1 h
  have c0 := SatL.cell (h0 : SatL w (cl _ _ _ :: _)) (i := 0) (v := .int .i64 e) rfl
  have ke := errno_err he w
  generalize errS e = s at *
  clear h h0 he
  go_enter Tryd.func103, Tryd.ntmps103
  go_wp2_with (go_at_call 32; (with_reducible refine ke.mono ?_); rintro r w1 ⟨rfl, rfl⟩)
  go_ret
  exact ⟨rfl, rfl⟩
/-- why a call is none: its numbers -/
theorem knownL_err (p v c : Nat) (h : (knownL p v c).1 ≠ 0) : (knownL p v c).1 = 34 ∨ (knownL p v c).1 = 35 ∨ (knownL p v c).1 = 36 := by
  unfold knownL at h ⊢
  by_cases h1 : p = 100005 ∨ p = 100003
  · rw [if_pos h1] at h ⊢
    by_cases h2 : v ≠ 3
    · rw [if_pos h2]; exact .inr (.inl rfl)
    · rw [if_neg h2] at h ⊢
      by_cases h3 : (if p = 100005 then 5 else 21) < c
      · rw [if_pos h3]; exact .inr (.inr rfl)
      · rw [if_neg h3] at h; exact absurd rfl h
  · rw [if_neg h1]; exact .inl rfl
theorem readL_err {b : List UInt8} {e : Int} {bs : List UInt8} (h : readL b = .bad e bs) : e = 31 ∨ e = 32 ∨ e = 34 ∨ e = 35 ∨ e = 36 := by
  unfold readL at h
  by_cases h1 : (rd3 b).err ≠ 0 ∨ rkind b ≠ 0
  · rw [if_pos h1] at h; injection h with h1 h2; omega
  · rw [if_neg h1] at h
    by_cases h2 : rvers b ≠ 2
    · rw [if_pos h2] at h; injection h with h1 h2; omega
    · rw [if_neg h2] at h
      by_cases h3 : (rd10 b).err ≠ 0
      · rw [if_pos h3] at h; injection h with h1 h2; omega
      · rw [if_neg h3] at h
        by_cases h4 : cwhy b ≠ 0
        · rw [if_pos h4] at h; injection h with h1 h2; omega
        · rw [if_neg h4] at h
          by_cases h5 : (knownL (cprog b) (cvers b) (cproc b)).1 ≠ 0
          · rw [if_pos h5] at h; injection h with h6 h7; have := knownL_err _ _ _ h5; omega
          · rw [if_neg h5] at h; cases h
end
end Go.Proofs.YtpecmkkcepnpeaaDoor
