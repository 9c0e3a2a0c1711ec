/- append(s, make([]T, m)...) on a slice that is owned. No condition beside the room it asks for. -/
import Derived.Test.YtklnlomleiebaaaPush
namespace Go.Proofs.Ytklnlomleiebaaa
set_option linter.unusedVariables false
set_option linter.unusedSimpArgs false
open Go.RowKit

section
variable {P : Program} {w : World} {l : List HP} {T bytes : Nat} {v z : Value} {xs : List Value}

theorem run_appendz_sl {t u ty : Nat} (E : ElemOk P t T 1 bytes [z]) (hu : P.underlying u = some (.int .i64)) (h : SatL w (Sl T v xs :: l)) (m : Nat) (hbp : 0 < bytes)
    (hb : (xs.length + m) * bytes ≤ 140737488355328) :
    ∃ v' w', (Builtin.append_ #[t, u] ty #[v, .int .i64 m]).run P w = .ok v' w' ∧ SatL w' (Sl T v' (xs ++ List.replicate m z) :: l) := by
  obtain ⟨i, z', hi, hz, hi1, rfl, hzs⟩ := E.info
  have hnm : xs.length + m ≤ (xs.length + m) * i.bytes := Nat.le_mul_of_pos_right _ hbp
  have h63 : xs.length + m ≤ maxLen := by unfold maxLen; omega
  have hwr : IntKind.i64.wrap (m : Int) = m := IntWalk.i64_in _ (by omega)
  have hneg : ¬ ((m : Int) < 0) := by omega
  have hmb : m * i.bytes ≤ (xs.length + m) * i.bytes := Nat.mul_le_mul_right _ (by omega)
  have hbi : ¬ (281474976710656 < (m : Int) * (i.bytes : Int)) := by
    have : (m : Int) * (i.bytes : Int) = ((m * i.bytes : Nat) : Int) := by rw [Int.natCast_mul]
    omega
  have h63' : ¬ (9223372036854775807 < ((xs.length : Int) + (m : Int))) := by omega
  have zc : ∀ q : Nat, (Builtin.zeroCells #[z] q) = (List.replicate q z).toArray := fun q => by
    apply Array.ext'; rw [zeroCells_one]
  have happ : ∀ w : World, (if m * 1 = 0 then (pure #[] : Sem (Array Value)) else (do pure (Builtin.zeroCells (← zeroValue T).cells m))).run P w = .ok (List.replicate m z).toArray w := by
    intro w
    by_cases hm : m = 0
    · subst hm; simp
    · have : ¬ (m * 1 = 0) := by omega
      rw [if_neg this]
      simp [zeroValue, typeInfo, hi, hz, hzs, zc]
  have grown : ∀ old, old < xs.length + m → (xs.length + m) ≤ grownCap w (xs.length + m) old T ∧ SatL (w.drew.alloc (.cells (xs.toArray ++ (List.replicate m z).toArray ++ Builtin.zeroCells #[z] (grownCap w (xs.length + m) old T - (xs.length + m))) T))
      (Sl T (.slice (some ⟨w.heap.size, 0, none⟩) (xs.length + m) (grownCap w (xs.length + m) old T)) (xs ++ List.replicate m z) :: l) := by
    intro old ho
    have hge := grownCap_ge w (xs.length + m) old T
    have hcm := grownCap_le_maxLen w (xs.length + m) old T h63
    refine ⟨hge, Sl.ofK (n := xs.length + m) (sat_SlK.2 (.inr ⟨w.heap.size, 0, _, _, ⟨rfl, hge, hcm, by simp, ?_, ?_⟩, (SatL.tail h).alloc _⟩))⟩
    · rw [zc]; simp; omega
    · rw [zc]
      simp only [Array.toList_append, List.drop_zero, Nat.mul_one]
      rw [show xs.length + m = (xs ++ List.replicate m z).length by simp]
      exact List.take_left
  rcases sat_SlK.1 h with ⟨rfl, hl0, hx0, hs⟩ | ⟨b, off, cap, arr, ⟨rfl, h2, h3, h4, h5, h6⟩, hs⟩
  · subst hx0
    by_cases hm : m = 0
    · subst hm
      refine ⟨.slice none 0 0, w, ?_, by simpa using Sl_nil hs⟩
      have hw0 : IntKind.i64.wrap 0 = 0 := by decide
      simp [Builtin.append_, run_underlying E.under, run_underlying hu, sizeOf, typeInfo, hi, hi1, asInt, asIntOf, hw0]
    · have g := (grown 0 (by simp; omega)).2
      simp only [List.length_nil, Nat.zero_add] at g hb
      have h48' : ¬ (281474976710656 < Builtin.nextslicecap m 0 * i.bytes) := by rw [nextslicecap_zero (by omega)]; omega
      have h63'' : ¬ (9223372036854775807 < (m : Int)) := by omega
      refine ⟨_, _, ?_, g⟩
      simp [Builtin.append_, run_underlying E.under, run_underlying hu, sizeOf, typeInfo, zeroValue, hi, hi1, hz, hzs, zc, asInt, asIntOf, hwr, hneg, hbi, hm, h63'', h48', Question.forced, run_firstCells_none, newRow, grownCap]
  · by_cases hroom : xs.length + m ≤ cap
    · have hfit : off + xs.length + 0 + (List.replicate m z).length ≤ arr.size := by simp; omega
      have hone : ∀ y ∈ List.replicate m z, y.oneCell' = true := by intro y hy; rw [List.eq_of_mem_replicate hy]; exact E.one z (by simp)
      have hst := run_storeCells_at P b (off + xs.length) T (List.replicate m z) 0 arr w hs.heap hfit hone
      refine ⟨.slice (some ⟨b, off, none⟩) (xs.length + m) cap, w.setRow b (arr.toList.take (off + xs.length) ++ List.replicate m z ++ arr.toList.drop (off + xs.length + (List.replicate m z).length)).toArray, ?_, Sl.ofK (n := xs.length + m) (sat_SlK.2 (.inr ⟨b, off, cap, _, ⟨rfl, hroom, h3, by simp, ?_, ?_⟩, hs.setRow _⟩))⟩
      · simp only [Nat.add_zero] at hst
        simp only [List.length_replicate] at hst ⊢
        have hst2 : ∀ (vs : List Value), vs = List.replicate m z → (storeCells ⟨b, off + xs.length, none⟩ vs).run P w = .ok () (w.setRow b (arr.toList.take (off + xs.length) ++ List.replicate m z ++ arr.toList.drop (off + xs.length + m)).toArray) := fun vs hv => by subst hv; exact hst
        by_cases hm : m = 0
        · subst hm
          have hw0 : IntKind.i64.wrap 0 = 0 := by decide
          have hst3 := hst2 [] rfl
          simp only [List.replicate_zero, List.append_nil, Nat.add_zero] at hst3
          simp [Builtin.append_, run_underlying E.under, run_underlying hu, sizeOf, typeInfo, hi, hi1, asInt, asIntOf, hw0, h2, addr_add, hst3]
        · simp [Builtin.append_, run_underlying E.under, run_underlying hu, sizeOf, typeInfo, zeroValue, hi, hi1, hz, hzs, zc, asInt, asIntOf, hwr, hneg, hbi, hroom, hm, addr_add, hst]
      · simp; omega
      · rw [Nat.mul_one] at h6 ⊢
        have e1 : (arr.toList.take (off + xs.length)).drop off = xs := by rw [← h6, List.drop_take]; simp
        simp only []
        rw [List.append_assoc, List.drop_append_of_le_length (by simp; omega), e1, ← List.append_assoc]
        rw [show xs.length + m = (xs ++ List.replicate m z).length by simp]
        exact List.take_left
    · have hfo : (Builtin.firstCells 1 xs.length (.slice (some ⟨b, off, none⟩) xs.length cap)).run P w.drew = .ok xs.toArray w.drew :=
        run_firstCells_some w.drew 1 xs.length _ xs.length cap xs (by simp) (fun j y hy => by rw [addr_add]; exact Sl.cell h hy)
      have h48' : ¬ (281474976710656 < Builtin.nextslicecap (xs.length + m) cap * i.bytes) := by have := growslice_fits (old := cap) (by omega : cap < xs.length + m) hb; omega
      obtain ⟨_, g⟩ := grown cap (by omega)
      have hm : ¬ m = 0 := by omega
      refine ⟨_, _, ?_, g⟩
      simp [Builtin.append_, run_underlying E.under, run_underlying hu, sizeOf, typeInfo, zeroValue, hi, hi1, hz, hzs, zc, asInt, asIntOf, hwr, hneg, hbi, hroom, h63', h48', hm, Question.forced, hfo, newRow, grownCap]

theorem wpList_appendz_sl {ops : Array Oper} {rest : List Oper} {o : Oper} {a : Act} {Q : Exit → Act → World → Prop} (hgd : o.guard = none) (s x : Operand) {t u : Nat}
    (ho : o.op = .call { callee := .builtin .append, args := #[s, x], argTypes := #[t, u] }) (E : ElemOk P t T 1 bytes [z]) (hu : P.underlying u = some (.int .i64))
    (hs : a.eval s = v) (h : SatL w (Sl T v xs :: l)) {m : Nat} (hy : a.eval x = .int .i64 m) (hbp : 0 < bytes) (hb : (xs.length + m) * bytes ≤ 140737488355328)
    (K : ∀ v' w', SatL w' (Sl T v' (xs ++ List.replicate m z) :: l) → wpList P ops Q rest (a.put o.dst v') w') : wpList P ops Q (o :: rest) a w :=
  wpList_plain hgd fun _ hK => by
    obtain ⟨v', w', hr, h2⟩ := run_appendz_sl (ty := o.type) E hu h m hbp hb
    unfold Oper.wp execOp
    simp only [ho, resolve, invoke, builtin, Sem.run_bind, Sem.run_pure, Result.andThen_ok, List.map_toArray, List.map_cons, List.map_nil, hs, hy, hr]
    exact hK _ _ (K v' w' h2)
end
end Go.Proofs.Ytklnlomleiebaaa
