/- append onto a row that is full and may not be written (a constant's bytes): a new row; Low on such a one. -/
import Derived.Test.YtklnlomleiebaaaNumB
namespace Go.Proofs.Ytklnlomleiebaaa
set_option linter.unusedVariables false
set_option linter.unusedSimpArgs false
open Go.RowKit

section
variable {P : Program} {w : World} {L : List HP} {T bytes : Nat} {z : Value}

theorem run_appendfull {t u ty b off n m : Nat} {x : Value} {xs ys : List Value} (E : ElemOk P t T 1 bytes [z]) (h : SatL w L) (hn : xs.length = n)
    (hc : ∀ (j : Nat) y, xs[j]? = some y → w.cell? ⟨b, off + j, none⟩ = some y) (hx : SrcOk P u 1 w x m ys) (hm : 0 < m) (hb : (n + m) * bytes ≤ 140737488355328) (h63 : n + m ≤ maxLen) :
    ∃ v' w', (Builtin.append_ #[t, u] ty #[.slice (some ⟨b, off, none⟩) n n, x]).run P w = .ok v' w' ∧ SatL w' (Sl T v' (xs ++ ys) :: L) := by
  obtain ⟨i, z', hi, hz, hi1, rfl, hzs⟩ := E.info
  have hd := hx.zeros
  have hlx := hx.1
  have hlen := fun w' => hx.lenOf (P := P) w'
  have hcells' : (Builtin.firstCells 1 m x).run P w.drew = .ok ys.toArray w.drew := hx.drew.cells
  have h63' : ¬ (9223372036854775807 < ((n : Int) + (m : Int))) := by simp only [maxLen] at h63; omega
  have hroom : ¬ (n + m ≤ n) := by omega
  have hm0 : ¬ m = 0 := by omega
  have hge := grownCap_ge w (n + m) n T
  have hcm := grownCap_le_maxLen w (n + m) n T h63
  have zc : ∀ q : Nat, (Builtin.zeroCells #[z] q) = (List.replicate q z).toArray := fun q => by
    apply Array.ext'; rw [zeroCells_one]
  have g : SatL (w.drew.alloc (.cells (xs.toArray ++ ys.toArray ++ Builtin.zeroCells #[z] (grownCap w (n + m) n T - (n + m))) T)) (Sl T (.slice (some ⟨w.heap.size, 0, none⟩) (n + m) (grownCap w (n + m) n T)) (xs ++ ys) :: L) := by
    refine Sl.ofK (n := n + m) (sat_SlK.2 (.inr ⟨w.heap.size, 0, _, _, ⟨rfl, hge, hcm, by simp [hn, hlx], ?_, ?_⟩, h.alloc _⟩))
    · rw [zc]; simp [hn, hlx]; omega
    · rw [zc]
      simp only [Array.toList_append, List.drop_zero, Nat.mul_one]
      rw [show n + m = (xs ++ ys).length by simp [hn, hlx]]
      exact List.take_left
  have hfo : (Builtin.firstCells 1 n (.slice (some ⟨b, off, none⟩) n n)).run P w.drew = .ok xs.toArray w.drew :=
    run_firstCells_some w.drew 1 n _ n n xs (by simp [hn]) (fun j y hy => by rw [addr_add]; exact hc j y hy)
  have h48' : ¬ (281474976710656 < Builtin.nextslicecap (n + m) n * i.bytes) := by have := growslice_fits (old := n) (by omega : n < n + m) hb; omega
  refine ⟨_, _, ?_, g⟩
  rcases hd with ⟨e, hd⟩ | hd <;> simp [Builtin.append_, run_underlying E.under, run_underlying hd, sizeOf, typeInfo, zeroValue, hi, hi1, hz, hzs, hlen, hroom, hm0, h63', h48', Question.forced, hfo, hcells', newRow, grownCap] <;> (rw [← Array.append_assoc]; simp)

theorem wpList_pushfull_sl {ops : Array Oper} {rest : List Oper} {o : Oper} {a : Act} {Q : Exit → Act → World → Prop} (hgd : o.guard = none) (s x : Operand) {t b off n : Nat} {xs : List Value} {y : Value}
    (ho : o.op = .call { callee := .builtin .append, args := #[s, x], argTypes := #[t, t] }) (E : ElemOk P t T 1 bytes [z]) (hbp : 0 < bytes)
    (hs : a.eval s = .slice (some ⟨b, off, none⟩) n n) (h : SatL w L) (hn : xs.length = n) (hc : ∀ (j : Nat) y, xs[j]? = some y → w.cell? ⟨b, off + j, none⟩ = some y) (hy : a.eval x = .slice (some ⟨w.heap.size, 0, none⟩) 1 1)
    (h1 : y.oneCell' = true) (hb : (n + 1) * bytes ≤ 140737488355328)
    (K : ∀ v' w', SatL w' (Sl T v' (xs ++ [y]) :: L) → wpList P ops Q rest (a.put o.dst v') w') : wpList P ops Q (o :: rest) a (w.alloc (.cells #[y] T)) :=
  wpList_plain hgd fun _ hK => by
    have al := h.alloc (.cells #[y] T)
    have hc' : ∀ (j : Nat) u, xs[j]? = some u → (w.alloc (.cells #[y] T)).cell? ⟨b, off + j, none⟩ = some u := fun j u hu => cell?_alloc_marked' _ (hc j u hu)
    have h63 : n + 1 ≤ maxLen := by
      unfold maxLen
      have : n + 1 ≤ (n + 1) * bytes := Nat.le_mul_of_pos_right _ hbp
      omega
    obtain ⟨v', w', hr, h2⟩ := run_appendfull (ty := o.type) E al hn hc' (SrcOk.ofCl (k := 1) (n := 1) E.under al rfl 1) (by omega) hb h63
    unfold Oper.wp execOp
    simp only [ho, resolve, invoke, builtin, Sem.run_bind, Sem.run_pure, Result.andThen_ok, List.map_toArray, List.map_cons, List.map_nil, hs, hy, hr]
    exact hK _ _ (K v' w' (h2.swap).tail)
where
  cell?_alloc_marked' {W : World} {a : Addr} {v : Value} (o : Obj) (h : W.cell? a = some v) : (W.alloc o).cell? a = some v := by
    have hlt : a.block < W.heap.size := World.block_lt_of_cell? W _ h
    rw [← h]
    simp only [World.cell?, World.alloc, Array.getElem?_push, Nat.ne_of_lt hlt, if_false]
end

section
variable {w : World} {L : List HP}
theorem lowc_ok {b off n : Nat} {bs : List UInt8} {k x : Nat} (hk : k ≤ 8) (hk0 : 0 < k) (hx : x < 18446744073709551616) (hb : bs.length ≤ 1000000000) (hn : bs.length = n) (h : SatL w L) (g : RdB (.slice (some ⟨b, off, none⟩) n n) bs w) :
    Calls Try.prog 46 #[.slice (some ⟨b, off, none⟩) n n, .int .i64 k, .int .u64 x] w (Ret fun v' w' => SatL w' (SlB 5 v' (bs ++ lowb k x) :: L)) := by
  have hc : ∀ (j : Nat) y, (bvs bs)[j]? = some y → w.cell? ⟨b, off + j, none⟩ = some y := by
    intro j y hy
    have hj : j < bs.length := by have := (List.getElem?_eq_some_iff.1 hy).1; simpa using this
    rcases g with ⟨g, _⟩ | ⟨b', off', c', g, _, _, g3⟩
    · cases g
    · cases g
      rw [g3 j hj, ← hy, List.getElem?_map, List.getElem?_eq_getElem hj]
      simp [List.getD, hj]
  go_enter Try.func46, Try.ntmps46
  go_wp2
  go_loopw [0, 7] (fun out i wr => ∃ j : Nat, j ≤ k ∧ i = .int .i64 j ∧ ((j = 0 ∧ out = .slice (some ⟨b, off, none⟩) n n ∧ wr = w) ∨ (0 < j ∧ SatL wr (SlB 5 out (bs ++ lowb j x) :: L)))) (fun _ i _ => k - (intOf i).toNat)
  case atStart => exact ⟨0, by omega, rfl, .inl ⟨rfl, rfl, rfl⟩⟩
  case round =>
    obtain ⟨j, hj, rfl, hs⟩ := hrel
    by_cases hlt : j < k
    · have b8 : 0 < 1 := by omega
      have e1 := shr_at x j (by omega)
      have hsn := hid (lowb_snoc j x)
      rcases hs with ⟨rfl, rfl, rfl⟩ | ⟨hj0, hs⟩
      · have b1 : (n + 1) * 1 ≤ 140737488355328 := by omega
        have hbn : (bvs bs).length = n := by rw [bvs_len, hn]
        have H := hid hc
        clear hc
        go_wp2_with (at_builtin; refine wpList_pushfull_sl rfl (.tmp 13) (.tmp 19) rfl elem_byte b8 rfl h hbn H.out rfl rfl b1 ?_; intro v' w6 h6)
        go_roundw
        case rel =>
          refine ⟨1, by omega, rfl, .inr ⟨by omega, ?_⟩⟩
          refine SlB.app ?_
          have e : bvs (lowb 1 x) = [.int .u8 ((x : Int) % 256)] := by
            simp [lowb, bv, byteOf_nat]
          rw [e]
          simpa using h6
        case measure => simp [intOf]; omega
      · have b1 : ((bvs (bs ++ lowb j x)).length + 1) * 1 ≤ 140737488355328 := by simp [lowb_len]; omega
        clear hc
        go_wp2_with (at_builtin; refine wpList_push_sl rfl (.tmp 13) (.tmp 19) rfl elem_byte b8 rfl hs rfl rfl b1 ?_; intro v' w6 h6)
        go_roundw
        case rel =>
          rw [low_byte] at h6
          refine ⟨j + 1, by omega, by go_num, .inr ⟨by omega, ?_⟩⟩
          rw [hsn.out, ← List.append_assoc]
          exact SlB.snoc h6
        case measure => simp [intOf]; omega
    · obtain rfl : j = k := by omega
      rcases hs with ⟨rfl, _⟩ | ⟨_, hs⟩
      · omega
      · go_wp2
        go_ret
        exact Ret.mk hs
end
end Go.Proofs.Ytklnlomleiebaaa
