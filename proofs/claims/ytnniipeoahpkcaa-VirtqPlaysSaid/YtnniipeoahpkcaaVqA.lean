/- A queue's two sides: what they hold; at, NewDriver, NewDevice. No condition beside the sizes that each names. -/
import Derived.Test.YtnniipeoahpkcaaVq
namespace Go.Proofs.Ytnniipeoahpkcaa
set_option linter.unusedVariables false
set_option linter.unusedSimpArgs false
open Go.RowKit
section
variable {P : Program} {w : World} {l : List HP} {T bytes : Nat} {zs xs : List Value} {n : Nat}
/-- clear, of a part -/
theorem run_clear_mid {t ty : Nat} {z : Value} (E : ElemOk P t T 1 bytes [z]) {b off cap : Nat} (h : SatL w (Sl T (.slice (some ⟨b, off, none⟩) n cap) xs :: l)) {i d c : Nat} (hi : i + d ≤ n) :
    ∃ w', (Builtin.clear_ #[t] ty #[.slice (some ⟨b, off + i, none⟩) d c]).run P w = .ok (.tuple #[]) w' ∧ SatL w' (Sl T (.slice (some ⟨b, off, none⟩) n cap) (xs.take i ++ List.replicate d z ++ xs.drop (i + d)) :: l) := by
  obtain ⟨j, z', hj, hz, hj1, rfl, hzs⟩ := E.info
  obtain ⟨hnx, _, _⟩ := Sl.lenEq h
  subst hnx
  rcases sat_SlK.1 h with ⟨h1, _⟩ | ⟨b', off', cap', arr, ⟨h1, h2, h3, h4, h5, h6⟩, hs⟩
  · cases h1
  · cases h1
    rcases Nat.eq_zero_or_pos d with hx | hx
    · refine ⟨w, ?_, ?_⟩
      · rw [hx]; simp [Builtin.clear_, run_underlying E.under]
      · subst hx; simpa using h
    · have hst := run_storeCells_at P b (off + i) T (List.replicate d z) 0 arr w hs.heap (by simp; omega) (by intro y hy; rw [List.eq_of_mem_replicate hy]; exact E.one z (by simp))
      refine ⟨w.setRow b (arr.toList.take (off + i) ++ List.replicate d z ++ arr.toList.drop (off + i + d)).toArray, ?_, ?_⟩
      rotate_left
      · refine Sl.ofK (n := xs.length) (sat_SlK.2 (.inr ⟨b, off, cap, _, ⟨rfl, by omega, h3, by simp; omega, ?_, ?_⟩, hs.setRow _⟩))
        · simp; omega
        · have e1 : (arr.toList.take (off + i)).drop off = xs.take i := by rw [List.drop_take, ← h6, List.take_take]; congr 1; omega
          simp only []
          rw [List.append_assoc, List.drop_append_of_le_length (by simp; omega), e1, ← List.append_assoc, Nat.mul_one]
          have e4 : (arr.toList.drop (off + i + d)).take (xs.length - (i + d)) = xs.drop (i + d) := by
            conv => rhs; rw [← h6]
            rw [List.drop_take, List.drop_drop, Nat.mul_one, Nat.add_assoc]
          rw [← e4]
          have e3 : (xs.take i ++ List.replicate d z).length = i + d := by simp; omega
          rw [show xs.length = (i + d) + (xs.length - (i + d)) by omega]
          generalize xs.take i ++ List.replicate d z = A at *
          rw [← e3, List.take_length_add_append]
          congr 2; omega
      · simp only [Nat.add_zero, List.length_replicate] at hst
        obtain ⟨q, hq⟩ : ∃ q, d = q + 1 := ⟨d - 1, by omega⟩
        rw [hq] at hst ⊢
        simp [Builtin.clear_, run_underlying E.under, zeroValue, typeInfo, hj, hz, hzs, zeroCells_one, hst]
theorem wpList_clear_mid {ops : Array Oper} {rest : List Oper} {o : Oper} {a : Act} {Q : Exit → Act → World → Prop} (hgd : o.guard = none) (s : Operand) {t : Nat} {z : Value}
    (ho : o.op = .call { callee := .builtin .clear, args := #[s], argTypes := #[t] }) (E : ElemOk P t T 1 bytes [z]) {b off cap i d c : Nat} (h : SatL w (Sl T (.slice (some ⟨b, off, none⟩) n cap) xs :: l)) (hi : i + d ≤ n)
    (hs : a.eval s = .slice (some ⟨b, off + i, none⟩) d c)
    (K : ∀ w', SatL w' (Sl T (.slice (some ⟨b, off, none⟩) n cap) (xs.take i ++ List.replicate d z ++ xs.drop (i + d)) :: l) → wpList P ops Q rest (a.put o.dst (.tuple #[])) w') : wpList P ops Q (o :: rest) a w :=
  wpList_plain hgd fun _ hK => by
    obtain ⟨w', hr, h2⟩ := run_clear_mid (ty := o.type) (c := c) E h hi
    unfold Oper.wp execOp
    simp only [ho, resolve, invoke, builtin, Sem.run_bind, Sem.run_pure, Result.andThen_ok, List.map_toArray, List.map_cons, List.map_nil, hs, hr]
    exact hK _ _ (K w' h2)
end
def qs (n : Nat) : Nat := 8 + 26 * n
/-- how far a side has come -/
structure Ring where
  base : Nat
  n : Nat
  off : Nat
  use : Nat
/-- the driver -/
structure Dr where
  r : Ring
  busy : List Bool
  ch : Int → Option (List Nat)
structure RgOk (r : Ring) (z : Nat) : Prop where
  pw : pow2 r.n = true
  fit : r.base + qs r.n ≤ z
  ob : r.off < 65536
  ub : r.use < 65536
def ringV (mb o : Nat) (r : Ring) : List Value := [.slice (some ⟨mb, o + r.base, none⟩) (qs r.n) (qs r.n), .int .i64 r.n, .int .i64 r.off, .int .i64 r.use]
def DevR (vb mb o : Nat) (r : Ring) : HP := cl vb 71 (ringV mb o r).toArray
def natV (l : List Nat) : List Value := l.map fun i : Nat => .int .i64 i
def NatsL (v : Value) (l : List Nat) : HP := Sl 3 v (natV l)
def DrvR (db mb o : Nat) (d : Dr) : HP := ex fun bv => ex fun m : Nat => sep [cl db 69 (ringV mb o d.r ++ [bv, .map (some m)]).toArray, Sl 4 bv (d.busy.map Value.bool), MapF NatsL m d.ch]
def Dr.new (base n : Nat) : Dr := ⟨⟨base, n, 0, 0⟩, List.replicate n false, fun _ => none⟩
def lzero (m : List UInt8) (base z : Nat) : List UInt8 := m.take base ++ List.replicate z 0 ++ m.drop (base + z)
theorem lzero_len {m : List UInt8} {base z : Nat} (h : base + z ≤ m.length) : (lzero m base z).length = m.length := by
  unfold lzero; rw [List.length_append, List.length_append, List.length_take, List.length_drop, List.length_replicate]; omega
theorem bvs_lzero (m : List UInt8) (base z : Nat) : (bvs m).take base ++ List.replicate z (.int .u8 0) ++ (bvs m).drop (base + z) = bvs (lzero m base z) := by
  unfold lzero bvs; simp [List.map_append, List.map_take, List.map_drop]
section
variable {w : World} {L : List HP} {db vb mb o N c : Nat}
theorem sat_DrvR {d : Dr} : SatL w (DrvR db mb o d :: L) ↔ ∃ bv m, SatL w (cl db 69 (ringV mb o d.r ++ [bv, .map (some m)]).toArray :: Sl 4 bv (d.busy.map Value.bool) :: MapF NatsL m d.ch :: L) := by
  unfold DrvR
  rw [sat_ex]
  refine exists_congr fun _ => ?_
  rw [sat_ex]
  refine exists_congr fun _ => ?_
  rw [sat_sep]; rfl
theorem elem_bool : ElemOk Try.prog 66 4 1 1 [Value.bool false] := .of (z := .bool false) (by kernel_rfl) (by kernel_rfl) rfl rfl (by decide) (by simp [Value.oneCell'])
def atFits (N : Nat) (base n : Int) : Prop := qsize n ≠ 0 ∧ 0 ≤ base ∧ base ≤ (N : Int) - qsize n
set_option maxRecDepth 100000 in
theorem at_yes {base n : Nat} (hp : pow2 n = true) (hf : base + qs n ≤ N) (hN : N ≤ 1000000) (hc : N ≤ c) (w : World) :
    Calls Try.prog 24 #[.slice (some ⟨mb, o, none⟩) N c, .int .i64 base, .int .i64 n] w (Ret fun r w' => r = .tuple #[.agg (ringV mb o ⟨base, n, 0, 0⟩).toArray, .int .i64 0] ∧ ∀ L, SatL w L → SatL w' L) := by
  have hs := vsize_ok (n : Int)
  have hq : qsize (n : Int) = qs n := by unfold qsize qs; rw [if_pos ⟨by omega, hp⟩]; rfl
  rw [hq] at hs
  have hn := pow2_le hp
  have hz0 : 0 < qs n := by unfold qs; omega
  unfold ringV
  generalize qs n = z at *
  have hz : ¬ (z : Int) = 0 := by omega
  have h1 : (base : Int) ≤ (N : Int) - z := by omega
  have h2 : ¬ (N : Int) - z < base := by omega
  have hzb : z ≤ 1000000 := by omega
  have h3 : (base : Int) + z ≤ c := by omega
  have g1 : ((z : Int) == 0) = false := by simp; omega
  have g2 : decide ((base : Int) < 0) = false := by simp
  have g3 : decide ((N : Int) - z < base) = false := by simp; omega
  clear hq hp hn
  go_enter Try.func24, Try.ntmps24
  go_wp2_with (first | (go_at_call 9; (with_reducible refine (hs _).mono ?_); rintro e w2 ⟨v, rfl, rfl, rfl⟩))
  refine bodyPost_ret (v := .tuple #[.agg #[.slice (some ⟨mb, o + base, none⟩) z z, .int .i64 n, .int .i64 0, .int .i64 0], .int .i64 0]) (by simp [results, Try.results24, go_sem]) rfl (Ret.mk ⟨rfl, fun L h => (h.alloc _).tail⟩)
set_option maxRecDepth 100000 in
theorem at_no {base n : Int} (hr : -9223372036854775808 ≤ base ∧ base ≤ 9223372036854775807) (hf : ¬ atFits N base n) (hN : N ≤ 1000000) (w : World) :
    Calls Try.prog 24 #[.slice (some ⟨mb, o, none⟩) N c, .int .i64 base, .int .i64 n] w (Ret fun r w' => r = .tuple #[.agg #[.slice none 0 0, .int .i64 0, .int .i64 0, .int .i64 0], .int .i64 1] ∧ ∀ L, SatL w L → SatL w' L) := by
  have hs := vsize_ok n
  unfold atFits at hf
  have hz2 : qsize n ≤ 6664 := by unfold qsize; split; rename_i h; have := pow2_le h.2; omega; omega
  generalize qsize n = z at *
  by_cases h1 : z = 0
  · subst h1
    clear hf hz2
    go_enter Try.func24, Try.ntmps24
    go_wp2_with (first | (go_at_call 9; (with_reducible refine (hs _).mono ?_); rintro e w2 ⟨v, rfl, rfl, rfl⟩))
    exact bodyPost_ret (v := .tuple #[.agg #[.slice none 0 0, .int .i64 0, .int .i64 0, .int .i64 0], .int .i64 1]) (by simp [results, Try.results24, go_sem]) rfl (Ret.mk ⟨rfl, fun L h => (h.alloc _).tail⟩)
  · by_cases h2 : base < 0
    · clear hf
      go_enter Try.func24, Try.ntmps24
      go_wp2_with (first | (go_at_call 9; (with_reducible refine (hs _).mono ?_); rintro e w2 ⟨v, rfl, rfl, rfl⟩))
      exact bodyPost_ret (v := .tuple #[.agg #[.slice none 0 0, .int .i64 0, .int .i64 0, .int .i64 0], .int .i64 1]) (by simp [results, Try.results24, go_sem]) rfl (Ret.mk ⟨rfl, fun L h => (h.alloc _).tail⟩)
    · have h3 : (N : Int) - z < base := by omega
      clear hf
      go_enter Try.func24, Try.ntmps24
      go_wp2_with (first | (go_at_call 9; (with_reducible refine (hs _).mono ?_); rintro e w2 ⟨v, rfl, rfl, rfl⟩))
      exact bodyPost_ret (v := .tuple #[.agg #[.slice none 0 0, .int .i64 0, .int .i64 0, .int .i64 0], .int .i64 1]) (by simp [results, Try.results24, go_sem]) rfl (Ret.mk ⟨rfl, fun L h => (h.alloc _).tail⟩)
end
end Go.Proofs.Ytnniipeoahpkcaa
