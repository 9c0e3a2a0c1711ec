/- append that keeps the elder slice: it grew into a new row, or it lies ahead in the same. No condition beside the room. -/
import Derived.Test.YtjjnadlklfegcaaPuts
namespace Go.Proofs.Ytjjnadlklfegcaa
set_option linter.unusedVariables false
set_option linter.unusedSimpArgs false
open Go.RowKit

section
variable {P : Program} {w : World} {l : List HP} {T k n bytes : Nat} {v : Value} {xs zs : List Value}
theorem run_append_keep {t u ty : Nat} (E : ElemOk P t T k bytes zs) (h : SatL w (SlK T k v n xs :: l)) {x : Value} {m : Nat} {ys : List Value} (hx : SrcOk P u k w x m ys)
    (h1 : ∀ y ∈ ys, y.oneCell' = true) (hb : (n + m) * bytes ≤ 140737488355328) (h63 : n + m ≤ maxLen) :
    ∃ v' w', (Builtin.append_ #[t, u] ty #[v, x]).run P w = .ok v' w' ∧ (SatL w' (SlK T k v' (n + m) (xs ++ ys) :: SlK T k v n xs :: l) ∨ ∃ b off cap, v = .slice (some ⟨b, off, none⟩) n cap ∧ v' = .slice (some ⟨b, off, none⟩) (n + m) cap ∧ n + m ≤ cap ∧ SatL w' (SlK T k v' (n + m) (xs ++ ys) :: l)) := by
  obtain ⟨i, z, hi, hz, rfl, rfl, hzs⟩ := E.info
  have hd := hx.zeros
  have hlx := hx.1
  have hln := SlK.len h
  have hlen := fun w' => hx.lenOf (P := P) w'
  have hlz : z.cells.size = i.size := by rw [hzs]; simpa using E.len
  have zc : ∀ q, (Builtin.zeroCells z.cells q).size = q * i.size := fun q => by simp [Builtin.zeroCells, hlz]
  have grown : ∀ old, old < n + m → (n + m) ≤ grownCap w (n + m) old T ∧ SatL (w.drew.alloc (.cells (xs.toArray ++ ys.toArray ++ Builtin.zeroCells z.cells (grownCap w (n + m) old T - (n + m))) T))
      (SlK T i.size (.slice (some ⟨w.heap.size, 0, none⟩) (n + m) (grownCap w (n + m) old T)) (n + m) (xs ++ ys) :: SlK T i.size v n xs :: l) := by
    intro old ho
    have hge := grownCap_ge w (n + m) old T
    have hcm := grownCap_le_maxLen w (n + m) old T h63
    refine ⟨hge, sat_SlK.2 (.inr ⟨w.heap.size, 0, _, _, ⟨rfl, hge, hcm, by simp [hln, hlx, Nat.add_mul], ?_, ?_⟩, h.alloc _⟩)⟩
    · simp only [Array.size_append, List.size_toArray, zc, hln, hlx, ← Nat.add_mul]
      rw [show n + m + (grownCap w (n + m) old T - (n + m)) = grownCap w (n + m) old T by omega]; omega
    · simp only [Array.toList_append, List.drop_zero]
      rw [show (n + m) * i.size = (xs ++ ys).length by simp [hln, hlx, Nat.add_mul]]
      exact List.take_left
  have hcells := hx.cells
  have hcells' : (Builtin.firstCells i.size m x).run P w.drew = .ok ys.toArray w.drew := hx.drew.cells
  have h63' : ¬ (9223372036854775807 < ((n : Int) + (m : Int))) := by simp only [maxLen] at h63; omega
  rcases sat_SlK.1 h with ⟨rfl, rfl, rfl, hs⟩ | ⟨b, off, cap, arr, ⟨rfl, h2, h3, h4, h5, h6⟩, hs⟩
  · by_cases hm : m = 0
    · subst hm
      have hn : ys = [] := List.eq_nil_of_length_eq_zero (by simpa using hlx)
      subst hn
      refine ⟨.slice none 0 0, w, ?_, .inl (by simpa using SlK_nil (SlK_nil hs))⟩
      rcases hd with ⟨e, hd⟩ | hd <;> simp [Builtin.append_, run_underlying E.under, run_underlying hd, sizeOf, typeInfo, hi, hlen, hcells]
    · have g := (grown 0 (by omega)).2
      have h48' : ¬ (281474976710656 < Builtin.nextslicecap m 0 * i.bytes) := by rw [nextslicecap_zero (by omega)]; simp only [Nat.zero_add] at hb; omega
      have h63'' : ¬ (9223372036854775807 < (m : Int)) := by omega
      refine ⟨_, _, ?_, .inl g⟩
      rcases hd with ⟨e, hd⟩ | hd <;> simp [Builtin.append_, run_underlying E.under, run_underlying hd, sizeOf, typeInfo, zeroValue, hi, hz, hlen, hm, h63'', h48', Question.forced, run_firstCells_none, hcells', newRow, grownCap]
  · have hnc : n * i.size ≤ cap * i.size := Nat.mul_le_mul_right _ h2
    by_cases hroom : n + m ≤ cap
    · have hfit2 : (n + m) * i.size ≤ cap * i.size := Nat.mul_le_mul_right _ hroom
      have hfit : off + n * i.size + 0 + ys.length ≤ arr.size := by rw [hlx]; rw [Nat.add_mul] at hfit2; omega
      have hst := run_storeCells_at P b (off + n * i.size) T ys 0 arr w hs.heap hfit h1
      refine ⟨.slice (some ⟨b, off, none⟩) (n + m) cap, w.setRow b (arr.toList.take (off + n * i.size) ++ ys ++ arr.toList.drop (off + n * i.size + ys.length)).toArray, ?_, .inr ⟨b, off, cap, rfl, rfl, hroom, sat_SlK.2 (.inr ⟨b, off, cap, _, ⟨rfl, hroom, h3, by simp [hln, hlx, Nat.add_mul], ?_, ?_⟩, hs.setRow _⟩)⟩⟩
      · simp only [Nat.add_zero] at hst
        rcases hd with ⟨e, hd⟩ | hd <;> simp [Builtin.append_, run_underlying E.under, run_underlying hd, sizeOf, typeInfo, hi, hlen, hroom, hcells, addr_add, hst]
      · simp; omega
      · rw [← h6]
        have e1 : (arr.toList.drop off).take (n * i.size) = (arr.toList.take (off + n * i.size)).drop off := by rw [List.drop_take]; simp
        simp only []
        rw [e1, List.append_assoc, List.drop_append_of_le_length (by simp; omega)]
        have hl2 : ((arr.toList.take (off + n * i.size)).drop off).length = n * i.size := by simp; omega
        rw [show (n + m) * i.size = ((arr.toList.take (off + n * i.size)).drop off ++ ys).length by rw [List.length_append, hl2, hlx, Nat.add_mul], ← List.append_assoc]
        exact List.take_left
    · have hfo : (Builtin.firstCells i.size n (.slice (some ⟨b, off, none⟩) n cap)).run P w.drew = .ok xs.toArray w.drew :=
        run_firstCells_some w.drew i.size n _ n cap xs hln (fun j y hy => by rw [addr_add]; exact SlK.cell h hy)
      have h48' : ¬ (281474976710656 < Builtin.nextslicecap (n + m) cap * i.bytes) := by have := growslice_fits (old := cap) (by omega : cap < n + m) hb; omega
      obtain ⟨_, g⟩ := grown cap (by omega)
      refine ⟨_, _, ?_, .inl g⟩
      rcases hd with ⟨e, hd⟩ | hd <;> simp [Builtin.append_, run_underlying E.under, run_underlying hd, sizeOf, typeInfo, zeroValue, hi, hz, hlen, hroom, h63', h48', Question.forced, hfo, hcells', newRow, grownCap] <;> (rw [← Array.append_assoc]; simp)


/-- what stands behind such an append -/
def KeptBy (T k : Nat) (v : Value) (n : Nat) (xs : List Value) (v' : Value) (n' : Nat) (xs' : List Value) (l : List HP) (w' : World) : Prop :=
  SatL w' (SlK T k v' n' xs' :: SlK T k v n xs :: l) ∨ ∃ b off cap, v = .slice (some ⟨b, off, none⟩) n cap ∧ v' = .slice (some ⟨b, off, none⟩) n' cap ∧ n' ≤ cap ∧ SatL w' (SlK T k v' n' xs' :: l)
theorem wpList_pushK_keep {ops : Array Oper} {rest : List Oper} {o : Oper} {a : Act} {Q : Exit → Act → World → Prop} {nb : Nat} {cs : Array Value} (hnb : nb = w.heap.size) (hgd : o.guard = none) (s x : Operand) {t : Nat}
    (ho : o.op = .call { callee := .builtin .append, args := #[s, x], argTypes := #[t, t] }) (E : ElemOk P t T k bytes zs) (hbp : 0 < bytes)
    (hs : a.eval s = v) (h : SatL w (SlK T k v n xs :: l)) (hy : a.eval x = .slice (some ⟨nb, 0, none⟩) 1 1) (hcs : cs.size = k)
    (h1 : ∀ y ∈ cs.toList, y.oneCell' = true) (hb : (n + 1) * bytes ≤ 140737488355328)
    (K : ∀ v' w', KeptBy T k v n xs v' (n + 1) (xs ++ cs.toList) (cl nb T cs :: l) w' → wpList P ops Q rest (a.put o.dst v') w') : wpList P ops Q (o :: rest) a (w.alloc (.cells cs T)) :=
  wpList_plain hgd fun _ hK => by
    subst hnb
    have al := h.alloc (.cells cs T)
    obtain ⟨v', w', hr, h2⟩ := run_append_keep (ty := o.type) E al.swap (SrcOk.ofCl (n := 1) E.under al (by rw [hcs, Nat.one_mul]) 1) h1 hb (by
      unfold maxLen
      have : n + 1 ≤ (n + 1) * bytes := Nat.le_mul_of_pos_right _ hbp
      omega)
    unfold Oper.wp execOp
    simp only [ho, resolve, invoke, builtin, Sem.run_bind, Sem.run_pure, Result.andThen_ok, List.map_toArray, List.map_cons, List.map_nil, hs, hy, hr]
    exact hK _ _ (K v' w' h2)
end
end Go.Proofs.Ytjjnadlklfegcaa
