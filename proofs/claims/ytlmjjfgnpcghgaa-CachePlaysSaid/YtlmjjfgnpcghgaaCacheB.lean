/- New, Clone, wrong, free, Held of the cache. -/
import Derived.Test.YtlmjjfgnpcghgaaCacheA
import Derived.Test.YtlmjjfgnpcghgaaRd
namespace Go.Proofs.Ytlmjjfgnpcghgaa
set_option linter.unusedVariables false
set_option linter.unusedSimpArgs false
open Go.RowKit

theorem elem_int : ElemOk Try.prog 22 3 1 8 [Value.int .i64 0] := .of (z := Value.int .i64 0) (by kernel_rfl) (by kernel_rfl) rfl rfl (by decide) (by simp [Value.oneCell'])

section
variable {w : World} {l : List HP} {pb : Nat} {most : Int} {row : List Ent}

theorem wrong_ok (k : Int) (a : Option Addr) (n c : Nat) (hn : n ≤ maxLen) (h : SatL w l) :
    Calls Try.prog 28 #[.int .i64 k, .slice a n c] w (Ret (IntPost l (if k < 0 then 1 else if n = 512 then 0 else 14))) := by
  unfold maxLen at hn
  by_cases h1 : k < 0
  · rw [if_pos h1]
    go_enter Try.func28, Try.ntmps28
    go_wp2
    go_ret
    exact Ret.mk ⟨rfl, h⟩
  · rw [if_neg h1]
    by_cases h2 : n = 512
    · rw [if_pos h2]; subst h2
      go_enter Try.func28, Try.ntmps28
      go_wp2
      go_ret
      exact Ret.mk ⟨rfl, h⟩
    · rw [if_neg h2]
      have h3 : ((n : Int) != 512) = true := by simp; omega
      go_enter Try.func28, Try.ntmps28
      go_wp2
      go_ret
      exact Ret.mk ⟨rfl, h⟩

/-- what is cloned: the same bytes in a slice of its own -/
theorem clone_bytes {v : Value} {xs : List Value} (h : SatL w (Sl 5 v xs :: l)) (h1 : ∀ y ∈ xs, y.oneCell' = true) (hb : xs.length ≤ 140737488355328) :
    Calls Try.prog 27 #[v] w (Ret (SlPost 5 xs (Sl 5 v xs :: l))) := by
  have hnil := fun (w : World) => Lib.run_eql_slice_nil (P := Try.prog) w 29 5 none 0 0 0 0 Try.underlying29
  rcases Sl.form h with ⟨rfl, rfl⟩ | ⟨b, off, cap, rfl, h2, h3⟩
  · go_enter Try.func27, Try.ntmps27
    go_wp2
    go_ret
    exact Ret.mk (Sl_nil h)
  · have hnn := fun (w : World) => Lib.run_eql_slice_nil (P := Try.prog) w 29 5 (some ⟨b, off, none⟩) xs.length cap 0 0 Try.underlying29
    have h4 : SatL (w.alloc (.cells #[] 5)) (SlK 5 1 (.slice (some ⟨w.heap.size, 0, none⟩) 0 0) 0 [] :: Sl 5 (.slice (some ⟨b, off, none⟩) xs.length cap) xs :: l) :=
      sat_SlK.2 (.inr ⟨w.heap.size, 0, 0, #[], ⟨rfl, Nat.le_refl _, by decide, rfl, by simp, rfl⟩, h.alloc _⟩)
    have h5 := SrcOk.ofSl elem_byte.under (h4.pull 1)
    go_enter Try.func27, Try.ntmps27
    go_wp2_with (refine wpList_append_sl rfl (.tmp 5) (.tmp 6) rfl elem_byte rfl h4 rfl h5 h1 (by omega) (by unfold maxLen; omega) ?_; intro v' w' h6 _)
    go_ret
    have h7 := Sl.ofK h6
    exact Ret.mk (by unfold SlPost; simpa using h7)
end
end Go.Proofs.Ytlmjjfgnpcghgaa
