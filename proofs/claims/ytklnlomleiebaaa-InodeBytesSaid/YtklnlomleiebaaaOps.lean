/- append, clear, copy and make on slices that are owned. No condition beside the room they ask for. -/
import Derived.Test.YtklnlomleiebaaaSlice
namespace Go.Proofs.Ytklnlomleiebaaa
set_option linter.unusedVariables false
set_option linter.unusedSimpArgs false
open Go.RowKit

/-- the elements of a slice type t: type e, k cells each, so many bytes, the cells of their zero value -/
structure ElemOk (P : Program) (t e k bytes : Nat) (zs : List Value) : Prop where
  under : P.underlying t = some (.slice e)
  info : ∃ i z, P.info? e = some i ∧ i.zero = some z ∧ i.size = k ∧ i.bytes = bytes ∧ z.cells = zs.toArray
  len : zs.length = k
  pos : 0 < k
  one : ∀ z ∈ zs, z.oneCell' = true

/-- what may be appended or copied: cells ys (n elements of k cells each) that the value x reads as -/
def SrcOk (P : Program) (u : TypeId) (k : Nat) (w : World) (x : Value) (n : Nat) (ys : List Value) : Prop :=
  ys.length = n * k ∧ ((x = .slice none 0 0 ∧ n = 0 ∧ ∃ e, P.underlying u = some (.slice e)) ∨ (∃ a c, x = .slice (some a) n c ∧ (∃ e, P.underlying u = some (.slice e)) ∧ ∀ (j : Nat) y, ys[j]? = some y → w.cell? (a.add j) = some y) ∨
    (∃ s : ByteArray, x = .string s ∧ k = 1 ∧ P.underlying u = some .string ∧ n = s.size ∧ ys = s.data.toList.map (fun b => Value.int .u8 b.toNat)))

theorem ElemOk.of {P : Program} {t e k bytes : Nat} {zs : List Value} {z : Value} (h1 : P.underlying t = some (.slice e)) (h2 : (P.info? e).map (fun i => (i.zero, i.size, i.bytes)) = some (some z, k, bytes))
    (h3 : z.cells = zs.toArray) (h4 : zs.length = k) (h5 : 0 < k) (h6 : ∀ z ∈ zs, z.oneCell' = true) : ElemOk P t e k bytes zs := by
  refine ⟨h1, ?_, h4, h5, h6⟩
  cases hi : P.info? e with
  | none => rw [hi] at h2; simp at h2
  | some i => rw [hi] at h2; simp at h2; exact ⟨i, z, rfl, h2.1, h2.2.1, h2.2.2, h3⟩

section
variable {P : Program} {w : World} {l : List HP} {T k n bytes : Nat} {v : Value} {xs zs : List Value}

theorem addr_add (b o i : Nat) : (⟨b, o, none⟩ : Addr).add i = ⟨b, o + i, none⟩ := by unfold Addr.add; split <;> simp_all

theorem SatL.setRow {b : Nat} {cs : Array Value} (h : SatL w (cl b T cs :: l)) (cs' : Array Value) : SatL (w.setRow b cs') (cl b T cs' :: l) :=
  SatL.put h rfl (setRow_heap w b cs cs' T (0, 0) h.heap) fun c hc => setRow_other w b c cs' hc

theorem SrcOk.lenOf {u : Nat} {x : Value} {m : Nat} {ys : List Value} (h : SrcOk P u k w x m ys) (w' : World) : (Builtin.lenOf x).run P w' = .ok m w' := by
  rcases h.2 with ⟨rfl, rfl, _⟩ | ⟨a, c, rfl, _⟩ | ⟨s, rfl, _, _, rfl, _⟩ <;> simp [Builtin.lenOf]
theorem SrcOk.zeros {u : Nat} {x : Value} {m : Nat} {ys : List Value} (h : SrcOk P u k w x m ys) : (∃ e, P.underlying u = some (.slice e)) ∨ P.underlying u = some .string := by
  rcases h.2 with ⟨_, _, e, h⟩ | ⟨a, c, _, ⟨e, h⟩, _⟩ | ⟨s, _, _, h, _⟩
  · exact .inl ⟨e, h⟩
  · exact .inl ⟨e, h⟩
  · exact .inr h
theorem SrcOk.cells {u : Nat} {x : Value} {m : Nat} {ys : List Value} (h : SrcOk P u k w x m ys) : (Builtin.firstCells k m x).run P w = .ok ys.toArray w := by
  obtain ⟨hl, h⟩ := h
  rcases h with ⟨rfl, rfl, _⟩ | ⟨a, c, rfl, _, h⟩ | ⟨s, rfl, rfl, _, rfl, rfl⟩
  · have : ys = [] := List.eq_nil_of_length_eq_zero (by simpa using hl)
    subst this; simp [Builtin.firstCells]
  · exact run_firstCells_some w k m a m c ys hl h
  · have hx : s.extract 0 s.size = s := by simp
    simp [Builtin.firstCells, hx]
    rw [← Array.toList_inj]; simp
theorem SrcOk.drew {u : Nat} {x : Value} {m : Nat} {ys : List Value} (h : SrcOk P u k w x m ys) : SrcOk P u k w.drew x m ys := h

theorem SrcOk.ofK {t e : Nat} (hu : P.underlying t = some (.slice e)) (h : SatL w (SlK T k v n xs :: l)) : SrcOk P t k w v n xs := by
  refine ⟨SlK.len h, ?_⟩
  rcases SlK.form h with ⟨rfl, rfl, rfl⟩ | ⟨b, off, cap, rfl, h1, h2, h3⟩
  · exact .inl ⟨rfl, rfl, _, hu⟩
  · exact .inr (.inl ⟨_, _, rfl, ⟨_, hu⟩, fun j y hy => by rw [addr_add]; exact SlK.cell h hy⟩)
theorem SrcOk.ofSl {t e : Nat} (hu : P.underlying t = some (.slice e)) (h : SatL w (Sl T v xs :: l)) : SrcOk P t 1 w v xs.length xs := SrcOk.ofK hu h
theorem SrcOk.ofCl {t e b n : Nat} {cs : Array Value} (hu : P.underlying t = some (.slice e)) (h : SatL w (cl b T cs :: l)) (hn : cs.size = n * k) (c : Nat) : SrcOk P t k w (.slice (some ⟨b, 0, none⟩) n c) n cs.toList :=
  ⟨by simpa using hn, .inr (.inl ⟨_, _, rfl, ⟨_, hu⟩, fun j y hy => by rw [addr_add]; exact h.cell (by simpa using hy)⟩)⟩

theorem zeroCells_len (zs : List Value) (n : Nat) (h : 0 < zs.length) : (Builtin.zeroCells zs.toArray n).size = n * zs.length := by simp [Builtin.zeroCells]

theorem run_append_sl {t u ty : Nat} (E : ElemOk P t T k bytes zs) (h : SatL w (SlK T k v n xs :: l)) {x : Value} {m : Nat} {ys : List Value} (hx : SrcOk P u k w x m ys)
    (h1 : ∀ y ∈ ys, y.oneCell' = true) (hb : (n + m) * bytes ≤ 140737488355328) (h63 : n + m ≤ maxLen) :
    ∃ v' w', (Builtin.append_ #[t, u] ty #[v, x]).run P w = .ok v' w' ∧ SatL w' (SlK T k v' (n + m) (xs ++ ys) :: l) ∧ (v' = .slice none 0 0 ↔ v = .slice none 0 0 ∧ m = 0) := by
  obtain ⟨i, z, hi, hz, rfl, rfl, hzs⟩ := E.info
  have hd := hx.zeros
  have hlx := hx.1
  have hln := SlK.len h
  have hlen := fun w' => hx.lenOf (P := P) w'
  have hlz : z.cells.size = i.size := by rw [hzs]; simpa using E.len
  have zc : ∀ q, (Builtin.zeroCells z.cells q).size = q * i.size := fun q => by simp [Builtin.zeroCells, hlz]
  have grown : ∀ old, old < n + m → (n + m) ≤ grownCap w (n + m) old T ∧ SatL (w.drew.alloc (.cells (xs.toArray ++ ys.toArray ++ Builtin.zeroCells z.cells (grownCap w (n + m) old T - (n + m))) T))
      (SlK T i.size (.slice (some ⟨w.heap.size, 0, none⟩) (n + m) (grownCap w (n + m) old T)) (n + m) (xs ++ ys) :: l) := by
    intro old ho
    have hge := grownCap_ge w (n + m) old T
    have hcm := grownCap_le_maxLen w (n + m) old T h63
    refine ⟨hge, sat_SlK.2 (.inr ⟨w.heap.size, 0, _, _, ⟨rfl, hge, hcm, by simp [hln, hlx, Nat.add_mul], ?_, ?_⟩, (SatL.tail h).alloc _⟩)⟩
    · simp only [Array.size_append, List.size_toArray, zc, hln, hlx, ← Nat.add_mul]
      rw [show n + m + (grownCap w (n + m) old T - (n + m)) = grownCap w (n + m) old T by omega]; omega
    · simp only [Array.toList_append, List.drop_zero]
      rw [show (n + m) * i.size = (xs ++ ys).length by simp [hln, hlx, Nat.add_mul]]
      exact List.take_left
  have hcells := hx.cells
  have hcells' : (Builtin.firstCells i.size m x).run P w.drew = .ok ys.toArray w.drew := hx.drew.cells
  have h63' : ¬ (9223372036854775807 < ((n : Int) + (m : Int))) := by simp only [maxLen] at h63; omega
  rcases sat_SlK.1 h with ⟨rfl, rfl, rfl, hs⟩ | ⟨b, off, cap, arr, ⟨rfl, h2, h3, h4, h5, h6⟩, hs⟩
  · by_cases hm : m = 0
    · subst hm
      have hn : ys = [] := List.eq_nil_of_length_eq_zero (by simpa using hlx)
      subst hn
      refine ⟨.slice none 0 0, w, ?_, by simpa using SlK_nil hs, by simp⟩
      rcases hd with ⟨e, hd⟩ | hd <;> simp [Builtin.append_, run_underlying E.under, run_underlying hd, sizeOf, typeInfo, hi, hlen, hcells]
    · have g := (grown 0 (by omega)).2
      have h48' : ¬ (281474976710656 < Builtin.nextslicecap m 0 * i.bytes) := by rw [nextslicecap_zero (by omega)]; simp only [Nat.zero_add] at hb; omega
      have h63'' : ¬ (9223372036854775807 < (m : Int)) := by omega
      refine ⟨_, _, ?_, g, by simp [hm]⟩
      rcases hd with ⟨e, hd⟩ | hd <;> simp [Builtin.append_, run_underlying E.under, run_underlying hd, sizeOf, typeInfo, zeroValue, hi, hz, hlen, hm, h63'', h48', Question.forced, run_firstCells_none, hcells', newRow, grownCap]
  · have hnc : n * i.size ≤ cap * i.size := Nat.mul_le_mul_right _ h2
    by_cases hroom : n + m ≤ cap
    · have hfit2 : (n + m) * i.size ≤ cap * i.size := Nat.mul_le_mul_right _ hroom
      have hfit : off + n * i.size + 0 + ys.length ≤ arr.size := by rw [hlx]; rw [Nat.add_mul] at hfit2; omega
      have hst := run_storeCells_at P b (off + n * i.size) T ys 0 arr w hs.heap hfit h1
      refine ⟨.slice (some ⟨b, off, none⟩) (n + m) cap, w.setRow b (arr.toList.take (off + n * i.size) ++ ys ++ arr.toList.drop (off + n * i.size + ys.length)).toArray, ?_, sat_SlK.2 (.inr ⟨b, off, cap, _, ⟨rfl, hroom, h3, by simp [hln, hlx, Nat.add_mul], ?_, ?_⟩, hs.setRow _⟩), by simp⟩
      · simp only [Nat.add_zero] at hst
        rcases hd with ⟨e, hd⟩ | hd <;> simp [Builtin.append_, run_underlying E.under, run_underlying hd, sizeOf, typeInfo, hi, hlen, hroom, hcells, addr_add, hst]
      · simp; omega
      · rw [← h6]
        have e1 : (arr.toList.drop off).take (n * i.size) = (arr.toList.take (off + n * i.size)).drop off := by rw [List.drop_take]; simp
        simp only []
        rw [e1, List.append_assoc, List.drop_append_of_le_length (by simp; omega)]
        have hl2 : ((arr.toList.take (off + n * i.size)).drop off).length = n * i.size := by simp; omega
        rw [show (n + m) * i.size = ((arr.toList.take (off + n * i.size)).drop off ++ ys).length by rw [List.length_append, hl2, hlx, Nat.add_mul], ← List.append_assoc]
        exact List.take_left
    · have hfo : (Builtin.firstCells i.size n (.slice (some ⟨b, off, none⟩) n cap)).run P w.drew = .ok xs.toArray w.drew :=
        run_firstCells_some w.drew i.size n _ n cap xs hln (fun j y hy => by rw [addr_add]; exact SlK.cell h hy)
      have h48' : ¬ (281474976710656 < Builtin.nextslicecap (n + m) cap * i.bytes) := by have := growslice_fits (old := cap) (by omega : cap < n + m) hb; omega
      obtain ⟨_, g⟩ := grown cap (by omega)
      refine ⟨_, _, ?_, g, by simp⟩
      rcases hd with ⟨e, hd⟩ | hd <;> simp [Builtin.append_, run_underlying E.under, run_underlying hd, sizeOf, typeInfo, zeroValue, hi, hz, hlen, hroom, h63', h48', Question.forced, hfo, hcells', newRow, grownCap] <;> (rw [← Array.append_assoc]; simp)

/-- append, at the operation -/
theorem wpList_append_sl {ops : Array Oper} {rest : List Oper} {o : Oper} {a : Act} {Q : Exit → Act → World → Prop} (hgd : o.guard = none) (s x : Operand) {t u : Nat}
    (ho : o.op = .call { callee := .builtin .append, args := #[s, x], argTypes := #[t, u] }) (E : ElemOk P t T k bytes zs)
    (hs : a.eval s = v) (h : SatL w (SlK T k v n xs :: l)) {y : Value} (hy : a.eval x = y) {m : Nat} {ys : List Value} (hx : SrcOk P u k w y m ys)
    (h1 : ∀ y ∈ ys, y.oneCell' = true) (hb : (n + m) * bytes ≤ 140737488355328) (h63 : n + m ≤ maxLen)
    (K : ∀ v' w', SatL w' (SlK T k v' (n + m) (xs ++ ys) :: l) → (v' = .slice none 0 0 ↔ v = .slice none 0 0 ∧ m = 0) → wpList P ops Q rest (a.put o.dst v') w') : wpList P ops Q (o :: rest) a w :=
  wpList_plain hgd fun _ hK => by
    obtain ⟨v', w', hr, h2, h3⟩ := run_append_sl (ty := o.type) E h hx h1 hb h63
    unfold Oper.wp execOp
    simp only [ho, resolve, invoke, builtin, Sem.run_bind, Sem.run_pure, Result.andThen_ok, List.map_toArray, List.map_cons, List.map_nil, hs, hy, hr]
    exact hK _ _ (K v' w' h2 h3)

/-- append, as one step of a region that draws -/
theorem step_append_sl {ops : Array Oper} {o : Oper} {a : Act} {K : Act → World → Prop} {Q : Exit → Act → World → Prop} {X : Prop} (hgd : o.guard = none) (s x : Operand) {t u : Nat}
    (ho : o.op = .call { callee := .builtin .append, args := #[s, x], argTypes := #[t, u] }) (E : ElemOk P t T k bytes zs)
    (hs : a.eval s = v) (h : SatL w (SlK T k v n xs :: l)) {y : Value} (hy : a.eval x = y) {m : Nat} {ys : List Value} (hx : SrcOk P u k w y m ys)
    (h1 : ∀ y ∈ ys, y.oneCell' = true) (hb : (n + m) * bytes ≤ 140737488355328) (h63 : n + m ≤ maxLen)
    (H : ∀ v' w', SatL w' (SlK T k v' (n + m) (xs ++ ys) :: l) → (v' = .slice none 0 0 ↔ v = .slice none 0 0 ∧ m = 0) → K (a.put o.dst v') w') :
    if Region.wanted o (yielded ops a.tmps) = true then Oper.wp P o a w K Q else X := by
  have hw : Region.wanted o (yielded ops a.tmps) = true := by simp [Region.wanted, hgd]
  rw [if_pos hw]
  obtain ⟨v', w', hr, h2, h3⟩ := run_append_sl (ty := o.type) E h hx h1 hb h63
  unfold Oper.wp execOp
  simp only [ho, resolve, invoke, builtin, Sem.run_bind, Sem.run_pure, Result.andThen_ok, List.map_toArray, List.map_cons, List.map_nil, hs, hy, hr]
  exact H v' w' h2 h3

theorem zeroCells_one (z : Value) (n : Nat) : (Builtin.zeroCells #[z] n).toList = List.replicate n z := by
  simp [Builtin.zeroCells]
  apply List.ext_getElem
  · simp
  · intro i h1 h2; simp [Nat.mod_one]

/-- 'clear(s)' of a slice of one-cell elements -/
theorem run_clear_sl {t ty : Nat} {z : Value} (E : ElemOk P t T 1 bytes [z]) (h : SatL w (Sl T v xs :: l)) :
    ∃ w', (Builtin.clear_ #[t] ty #[v]).run P w = .ok (.tuple #[]) w' ∧ SatL w' (Sl T v (List.replicate xs.length z) :: l) := by
  obtain ⟨i, z', hi, hz, hi1, rfl, hzs⟩ := E.info
  rcases sat_SlK.1 h with ⟨rfl, h2, rfl, hs⟩ | ⟨b, off, cap, arr, ⟨rfl, h2, h3, h4, h5, h6⟩, hs⟩
  · refine ⟨w, ?_, by simpa using Sl_nil hs⟩
    simp [Builtin.clear_, run_underlying E.under]
  · rcases Nat.eq_zero_or_pos xs.length with hx | hx
    · have : xs = [] := List.eq_nil_of_length_eq_zero hx
      subst this
      refine ⟨w, ?_, by simpa using h⟩
      simp [Builtin.clear_, run_underlying E.under]
    · have hst := run_storeCells_at P b off T (List.replicate xs.length z) 0 arr w hs.heap (by simp; omega) (by intro y hy; rw [List.eq_of_mem_replicate hy]; exact E.one z (by simp))
      obtain ⟨q, hq⟩ : ∃ q, xs.length = q + 1 := ⟨xs.length - 1, by omega⟩
      refine ⟨w.setRow b (arr.toList.take off ++ List.replicate xs.length z ++ arr.toList.drop (off + xs.length)).toArray, ?_, ?_⟩
      rotate_left
      · refine Sl.ofK (n := xs.length) (sat_SlK.2 (.inr ⟨b, off, cap, _, ⟨rfl, h2, h3, by simp, ?_, ?_⟩, hs.setRow (arr.toList.take off ++ List.replicate xs.length z ++ arr.toList.drop (off + xs.length)).toArray⟩))
        · simp; omega
        · simp only []
          rw [List.append_assoc, List.drop_append_of_le_length (by simp; omega)]
          have : (arr.toList.take off).drop off = [] := List.drop_eq_nil_of_le (by simp; omega)
          rw [this, List.nil_append, Nat.mul_one]
          have e2 : xs.length = (List.replicate xs.length z).length := by simp
          conv => lhs; rw [e2]
          rw [List.length_replicate]
          simp
      · simp only [Nat.add_zero] at hst
        rw [hq] at hst ⊢
        simp [Builtin.clear_, run_underlying E.under, zeroValue, typeInfo, hi, hz, hzs, zeroCells_one, hst]

/-- 'clear(s[i:])' -/
theorem run_clear_tail {t ty : Nat} {z : Value} (E : ElemOk P t T 1 bytes [z]) {b off cap : Nat} (h : SatL w (Sl T (.slice (some ⟨b, off, none⟩) n cap) xs :: l)) {i c : Nat} (hi : i ≤ n) :
    ∃ w', (Builtin.clear_ #[t] ty #[.slice (some ⟨b, off + i, none⟩) (n - i) c]).run P w = .ok (.tuple #[]) w' ∧ SatL w' (Sl T (.slice (some ⟨b, off, none⟩) n cap) (xs.take i ++ List.replicate (n - i) z) :: l) := by
  obtain ⟨j, z', hj, hz, hj1, rfl, hzs⟩ := E.info
  obtain ⟨hnx, _, _⟩ := Sl.lenEq h
  subst hnx
  rcases sat_SlK.1 h with ⟨h1, _⟩ | ⟨b', off', cap', arr, ⟨h1, h2, h3, h4, h5, h6⟩, hs⟩
  · cases h1
  · cases h1
    rcases Nat.eq_zero_or_pos (xs.length - i) with hx | hx
    · refine ⟨w, ?_, ?_⟩
      · rw [hx]; simp [Builtin.clear_, run_underlying E.under]
      · rw [hx, List.take_of_length_le (by omega)]; simpa using h
    · have hst := run_storeCells_at P b (off + i) T (List.replicate (xs.length - i) z) 0 arr w hs.heap (by simp; omega) (by intro y hy; rw [List.eq_of_mem_replicate hy]; exact E.one z (by simp))
      refine ⟨w.setRow b (arr.toList.take (off + i) ++ List.replicate (xs.length - i) z ++ arr.toList.drop (off + i + (xs.length - i))).toArray, ?_, ?_⟩
      rotate_left
      · refine Sl.ofK (n := xs.length) (sat_SlK.2 (.inr ⟨b, off, cap, _, ⟨rfl, by omega, h3, by simp; omega, ?_, ?_⟩, hs.setRow _⟩))
        · simp; omega
        · have e1 : (arr.toList.take (off + i)).drop off = xs.take i := by rw [List.drop_take, ← h6, List.take_take]; congr 1; omega
          simp only []
          rw [List.append_assoc, List.drop_append_of_le_length (by simp; omega), e1, ← List.append_assoc, Nat.mul_one]
          have e3 : (xs.take i ++ List.replicate (xs.length - i) z).length = xs.length := by simp; omega
          generalize xs.take i ++ List.replicate (xs.length - i) z = A at *
          rw [← e3]
          exact List.take_left
      · simp only [Nat.add_zero, List.length_replicate] at hst
        obtain ⟨q, hq⟩ : ∃ q, xs.length - i = q + 1 := ⟨xs.length - i - 1, by omega⟩
        rw [hq] at hst ⊢
        simp [Builtin.clear_, run_underlying E.under, zeroValue, typeInfo, hj, hz, hzs, zeroCells_one, hst]

theorem wpList_clear_tail {ops : Array Oper} {rest : List Oper} {o : Oper} {a : Act} {Q : Exit → Act → World → Prop} (hgd : o.guard = none) (s : Operand) {t : Nat} {z : Value}
    (ho : o.op = .call { callee := .builtin .clear, args := #[s], argTypes := #[t] }) (E : ElemOk P t T 1 bytes [z]) {b off cap i c : Nat} (h : SatL w (Sl T (.slice (some ⟨b, off, none⟩) n cap) xs :: l)) (hi : i ≤ n)
    (hs : a.eval s = .slice (some ⟨b, off + i, none⟩) (n - i) c)
    (K : ∀ w', SatL w' (Sl T (.slice (some ⟨b, off, none⟩) n cap) (xs.take i ++ List.replicate (n - i) z) :: l) → wpList P ops Q rest (a.put o.dst (.tuple #[])) w') : wpList P ops Q (o :: rest) a w :=
  wpList_plain hgd fun _ hK => by
    obtain ⟨w', hr, h2⟩ := run_clear_tail (ty := o.type) (c := c) E h hi
    unfold Oper.wp execOp
    simp only [ho, resolve, invoke, builtin, Sem.run_bind, Sem.run_pure, Result.andThen_ok, List.map_toArray, List.map_cons, List.map_nil, hs, hr]
    exact hK _ _ (K w' h2)

theorem wpList_clear_sl {ops : Array Oper} {rest : List Oper} {o : Oper} {a : Act} {Q : Exit → Act → World → Prop} (hgd : o.guard = none) (s : Operand) {t : Nat} {z : Value}
    (ho : o.op = .call { callee := .builtin .clear, args := #[s], argTypes := #[t] }) (E : ElemOk P t T 1 bytes [z])
    (hs : a.eval s = v) (h : SatL w (Sl T v xs :: l))
    (K : ∀ w', SatL w' (Sl T v (List.replicate xs.length z) :: l) → wpList P ops Q rest (a.put o.dst (.tuple #[])) w') : wpList P ops Q (o :: rest) a w :=
  wpList_plain hgd fun _ hK => by
    obtain ⟨w', hr, h2⟩ := run_clear_sl (ty := o.type) E h
    unfold Oper.wp execOp
    simp only [ho, resolve, invoke, builtin, Sem.run_bind, Sem.run_pure, Result.andThen_ok, List.map_toArray, List.map_cons, List.map_nil, hs, hr]
    exact hK _ _ (K w' h2)

/-- make([]T, n), one-cell elements -/
theorem run_make_sl {t : Nat} {z : Value} (E : ElemOk P t T 1 bytes [z]) (h : SatL w l) (n : Nat) (hb : n * bytes ≤ 281474976710656) (hn : n ≤ 4611686018427387904) :
    ∃ w', (Instr.makeSlice t (.int .i64 n) (.int .i64 n)).run P w = .ok (.slice (some ⟨w.heap.size, 0, none⟩) n n) w' ∧ SatL w' (Sl T (.slice (some ⟨w.heap.size, 0, none⟩) n n) (List.replicate n z) :: l) := by
  obtain ⟨i, z', hi, hz, hi1, rfl, hzs⟩ := E.info
  have hw : IntKind.i64.wrap (n : Int) = n := IntWalk.i64_in _ (by omega)
  have hz1 : ∀ m : Nat, (Array.map (fun x => z'.cells[x % z'.cells.size]!) (Array.range m)) = (List.replicate m z).toArray := by
    intro m
    rw [hzs]
    apply Array.ext
    · simp
    · intro j h1 h2; simp [Nat.mod_one]
  have hbi : ¬ (281474976710656 < (i.bytes : Int) * (n : Int)) := by
    have : (i.bytes : Int) * (n : Int) = ((n * i.bytes : Nat) : Int) := by rw [Int.natCast_mul, Int.mul_comm]
    omega
  refine ⟨_, ?_, Sl.ofK (n := n) (sat_SlK.2 (.inr ⟨w.heap.size, 0, n, (List.replicate n z).toArray, ⟨rfl, Nat.le_refl _, by unfold maxLen; omega, by simp, by simp, by simp⟩, h.alloc _⟩))⟩
  have hneg : ¬ ((n : Int) < 0) := by omega
  by_cases h0 : n = 0
  · subst h0
    have hw0 : IntKind.i64.wrap 0 = 0 := by decide
    by_cases hr : roomBytes < 0
    · simp [roomBytes] at hr
    · simp [Instr.makeSlice, run_underlying E.under, typeInfo, sizeOf, hi, hi1, asInt, asIntOf, hw0, askRoom, newRow]
      rw [Array.eq_empty_of_size_eq_zero (xs := Array.range 0) (by simp)]; simp
  · by_cases hr : roomBytes < n * i.bytes <;> simp [Instr.makeSlice, run_underlying E.under, typeInfo, sizeOf, zeroValue, hi, hi1, hz, asInt, asIntOf, hw, hbi, askRoom, hr, mark, h0, hneg, newRow, Sem.run, hz1]

theorem wpList_make_sl {ops : Array Oper} {rest : List Oper} {o : Oper} {a : Act} {Q : Exit → Act → World → Prop} (hgd : o.guard = none) (x y : Operand) {t : Nat} {z : Value}
    (ho : o.op = .makeSlice t x y) (E : ElemOk P t T 1 bytes [z]) (n : Nat) (hx : a.eval x = .int .i64 n) (hy : a.eval y = .int .i64 n) (h : SatL w l) (hb : n * bytes ≤ 281474976710656) (hn : n ≤ 4611686018427387904)
    (K : ∀ w', SatL w' (Sl T (.slice (some ⟨w.heap.size, 0, none⟩) n n) (List.replicate n z) :: l) → wpList P ops Q rest (a.put o.dst (.slice (some ⟨w.heap.size, 0, none⟩) n n)) w') : wpList P ops Q (o :: rest) a w :=
  wpList_plain hgd fun _ hK => by
    obtain ⟨w', hr, h2⟩ := run_make_sl E h n hb hn
    unfold Oper.wp
    simp [execOp, ho, hx, hy, hr, Result.andThen]
    exact hK _ _ (K w' h2)
end

end Go.Proofs.Ytklnlomleiebaaa
