/- Block of the laws' base; a view over a base whose blocks are all at hand: has, Get, Put. -/
import Derived.Test.YtklnlomleiebaaaMade
import Derived.Test.YtklnlomleiebaaaMapR
namespace Go.Proofs.Ytklnlomleiebaaa
set_option linter.unusedVariables false
set_option linter.unusedSimpArgs false
open Go.RowKit

def zero512 : List UInt8 := List.replicate 512 0
theorem zero512_len : zero512.length = 512 := List.length_replicate ..
def Rows512 (rows : List (Option (List UInt8))) : Prop := ∀ (k : Nat) (d : List UInt8), rows[k]? = some (some d) → d.length = 512
theorem key_view : KeyInt Try.prog 76 42 (.slice none 0 0) := .of (kt := 3) (by kernel_rfl) (by kernel_rfl) (by kernel_rfl)

section
variable {w : World} {L : List HP} {mb : Nat} {rows : List (Option (List UInt8))} {lack : List Bool}
theorem sat_BaseO : SatL w (BaseR mb rows lack :: L) ↔ ∃ bv lv q, rdata q = rows ∧ SatL w (cl mb 64 #[bv, lv] :: Sl 42 bv (rvals q) :: big RwP q :: Sl 4 lv (bools lack) :: L) := by
  rw [sat_BaseR]
  constructor
  · rintro ⟨bv, lv, h⟩
    obtain ⟨q, hq, h2⟩ := sat_RowsR.1 h.swap
    exact ⟨bv, lv, q, hq, h2.bring [2, 0, 1]⟩
  · rintro ⟨bv, lv, q, hq, h⟩
    exact ⟨bv, lv, (sat_RowsR.2 ⟨q, hq, h.bring [1, 2, 0]⟩).swap⟩

theorem clone_row {v : Value} {xs : List Value} (h : SatL w (Sl 5 v xs :: L)) (h1 : ∀ y ∈ xs, y.oneCell' = true) (hb : xs.length ≤ 140737488355328) :
    Calls Try.prog 29 #[v] w (Ret fun v' w' => SatL w' (Sl 5 v' xs :: Sl 5 v xs :: L)) := by
  have hnil := fun (w : World) => Lib.run_eql_slice_nil (P := Try.prog) w 42 5 none 0 0 0 0 Try.underlying42
  rcases Sl.form h with ⟨rfl, rfl⟩ | ⟨b, off, cap, rfl, h2, h3⟩
  · go_enter Try.func29, Try.ntmps29
    go_wp2
    go_ret
    exact Ret.mk (Sl_nil h)
  · have hnn := fun (w : World) => Lib.run_eql_slice_nil (P := Try.prog) w 42 5 (some ⟨b, off, none⟩) xs.length cap 0 0 Try.underlying42
    have h4 : SatL (w.alloc (.cells #[] 5)) (SlK 5 1 (.slice (some ⟨w.heap.size, 0, none⟩) 0 0) 0 [] :: Sl 5 (.slice (some ⟨b, off, none⟩) xs.length cap) xs :: L) :=
      sat_SlK.2 (.inr ⟨w.heap.size, 0, 0, #[], ⟨rfl, Nat.le_refl _, by decide, rfl, by simp, rfl⟩, h.alloc _⟩)
    have h5 := SrcOk.ofSl elem_byte.under (h4.pull 1)
    go_enter Try.func29, Try.ntmps29
    go_wp2_with (refine wpList_append_sl rfl (.tmp 5) (.tmp 6) rfl elem_byte rfl h4 rfl h5 h1 (by omega) (by unfold maxLen; omega) ?_; intro v' w' h6 _)
    go_ret
    have h7 := Sl.ofK h6
    exact Ret.mk (by simpa using h7)
theorem clone_bytes {v : Value} {xs : List UInt8} (h : SatL w (SlB 5 v xs :: L)) (hb : xs.length ≤ 140737488355328) :
    Calls Try.prog 29 #[v] w (Ret fun v' w' => SatL w' (SlB 5 v' xs :: SlB 5 v xs :: L)) := clone_row h (bvs_one xs) (by rw [bvs_len]; exact hb)

theorem has_in {vb n k : Nat} (hk : k < n) (c1 : w.cell? ⟨vb, 1, none⟩ = some (.int .i64 n)) :
    Calls Try.prog 28 #[.pointer (some ⟨vb, 0, none⟩), .int .i64 k] w (fun e w' => e = .returned (.bool true) ∧ w = w') := by
  have e1 : (k : Int) < n := by omega
  go_enter Try.func28, Try.ntmps28
  go_wp2
  go_ret
  exact ⟨rfl, rfl⟩

set_option maxHeartbeats 1000000 in
theorem block_none {k : Nat} (h : SatL w (BaseR mb rows (List.replicate rows.length false) :: L)) (hk : rows[k]? = some none) (hn : rows.length ≤ 1000000) :
    Calls Try.prog 65 #[.pointer (some ⟨mb, 0, none⟩), .int .i64 k] w (Ret fun v w' => ∃ dv, v = .tuple #[dv, .nilIface] ∧ SatL w' (SlB 5 dv zero512 :: BaseR mb rows (List.replicate rows.length false) :: L)) := by
  have hlt : k < rows.length := (List.getElem?_eq_some_iff.1 hk).1
  obtain ⟨bv, lv, q, hq, h1⟩ := sat_BaseO.1 h
  have hql : (rvals q).length = rows.length := by rw [← hq]; simp
  obtain ⟨ba, bc, rfl, q1, q2⟩ := Sl.valn (h1.pull 1 : SatL w (Sl _ _ _ :: _)) hql
  obtain ⟨la, lc, rfl, q3, q4⟩ := Sl.valn (h1.pull 3 : SatL w (Sl _ _ _ :: _)) (m := rows.length) (by simp)
  obtain ⟨bb, bo, rfl⟩ := Sl.addr (h1.pull 1 : SatL w (Sl _ _ _ :: _)) (by omega)
  obtain ⟨lb, lo, rfl⟩ := Sl.addr (h1.pull 3 : SatL w (Sl _ _ _ :: _)) (by omega)
  have c0 := h1.cell (i := 0) rfl
  have c1 := h1.cell (i := 1) rfl
  have lk := Sl.cell (h1.pull 3 : SatL w (Sl _ _ _ :: _)) (i := k) (x := .bool false) (by simp [hlt])
  have hv : (rvals q)[k]? = some (.slice none 0 0) := by
    subst hq
    rw [List.getElem?_map] at hk ⊢
    cases hqk : q[k]? with
    | none => rw [hqk] at hk; cases hk
    | some r =>
      rw [hqk] at hk
      obtain ⟨v, d⟩ := r
      simp only [Option.map_some, Option.some.injEq] at hk
      subst hk
      have := sat_pur.1 ((big_get hqk).1 (h1.pull 2 : SatL w (big RwP q :: _)))
      simp only [Option.map_some, Option.some.injEq]
      exact this.1
  have rk := Sl.cell (h1.pull 1 : SatL w (Sl _ _ _ :: _)) hv
  have hnil := fun (w : World) => Lib.run_eql_slice_nil (P := Try.prog) w 42 5 none 0 0 0 0 Try.underlying42
  have kk : (k : Int) < rows.length := by omega
  clear h1 hv
  generalize rows.length = N at *
  go_enter Try.func65, Try.ntmps65
  go_wp2_with (refine wpList_make_sl rfl (.const (.int .i64 512)) (.const (.int .i64 512)) rfl elem_byte 512 rfl rfl h (by omega) (by omega) ?_; intro w3 hs3)
  go_ret2
  refine Ret.mk ⟨_, rfl, ?_⟩
  unfold SlB zero512
  rw [bvs_zeros]
  exact hs3

set_option maxHeartbeats 1000000 in
theorem block_some {k : Nat} {d : List UInt8} (h : SatL w (BaseR mb rows (List.replicate rows.length false) :: L)) (hk : rows[k]? = some (some d)) (hd : d.length = 512) (hn : rows.length ≤ 1000000) :
    Calls Try.prog 65 #[.pointer (some ⟨mb, 0, none⟩), .int .i64 k] w (Ret fun v w' => ∃ dv, v = .tuple #[dv, .nilIface] ∧ SatL w' (SlB 5 dv d :: BaseR mb rows (List.replicate rows.length false) :: L)) := by
  have hlt : k < rows.length := (List.getElem?_eq_some_iff.1 hk).1
  obtain ⟨bv, lv, q, hq, h1⟩ := sat_BaseO.1 h
  have hql : (rvals q).length = rows.length := by rw [← hq]; simp
  obtain ⟨ba, bc, rfl, q1, q2⟩ := Sl.valn (h1.pull 1 : SatL w (Sl _ _ _ :: _)) hql
  obtain ⟨la, lc, rfl, q3, q4⟩ := Sl.valn (h1.pull 3 : SatL w (Sl _ _ _ :: _)) (m := rows.length) (by simp)
  obtain ⟨bb, bo, rfl⟩ := Sl.addr (h1.pull 1 : SatL w (Sl _ _ _ :: _)) (by omega)
  obtain ⟨lb, lo, rfl⟩ := Sl.addr (h1.pull 3 : SatL w (Sl _ _ _ :: _)) (by omega)
  have c0 := h1.cell (i := 0) rfl
  have c1 := h1.cell (i := 1) rfl
  have lk := Sl.cell (h1.pull 3 : SatL w (Sl _ _ _ :: _)) (i := k) (x := .bool false) (by simp [hlt])
  obtain ⟨v, hqk⟩ : ∃ v, q[k]? = some ⟨v, some d⟩ := by
    rw [← hq, List.getElem?_map] at hk
    cases hqk : q[k]? with
    | none => rw [hqk] at hk; cases hk
    | some r =>
      rw [hqk] at hk
      obtain ⟨v, d'⟩ := r
      simp only [Option.map_some, Option.some.injEq] at hk
      subst hk
      exact ⟨v, rfl⟩
  have hv : (rvals q)[k]? = some v := by rw [List.getElem?_map, hqk]; rfl
  have h2 : SatL w (SlB 5 v d :: _) := (big_get hqk).1 (h1.pull 2 : SatL w (big RwP q :: _))
  obtain ⟨a, c, rfl, q5, q6⟩ := Sl.valn h2 (m := 512) (by rw [bvs_len, hd])
  obtain ⟨b, off, rfl⟩ := Sl.addr h2 (by omega)
  have rk := Sl.cell (h1.pull 1 : SatL w (Sl _ _ _ :: _)) hv
  have h1a := h1.alloc (.cells #[] 5)
  have d0 : (w.alloc (.cells #[] 5)).cell? ⟨mb, 0, none⟩ = _ := (h1a.pull 1 : SatL _ (cl _ _ _ :: _)).cell (i := 0) rfl
  have dk := Sl.cell (h1a.pull 2 : SatL _ (Sl _ _ _ :: _)) hv
  have hnil := fun (w : World) => Lib.run_eql_slice_nil (P := Try.prog) w 42 5 (some ⟨b, off, none⟩) 512 c 0 0 Try.underlying42
  have h4 : SatL (w.alloc (.cells #[] 5)) (SlK 5 1 (.slice (some ⟨w.heap.size, 0, none⟩) 0 0) 0 [] :: SlB 5 (.slice (some ⟨b, off, none⟩) 512 c) d :: _) :=
    sat_SlK.2 (.inr ⟨w.heap.size, 0, 0, #[], ⟨rfl, Nat.le_refl _, by decide, rfl, by simp, rfl⟩, h2.alloc _⟩)
  have h5 := SrcOk.ofSl elem_byte.under (h4.pull 1)
  have h9 := bvs_one d
  have hbl := bvs_len d
  have kk : (k : Int) < rows.length := by omega
  have hback : ∀ (w' : World) (v' : Value), SatL w' (Sl 5 v' ([] ++ bvs d) :: SlB 5 (.slice (some ⟨b, off, none⟩) 512 c) d :: big RwP (q.take k ++ q.drop (k + 1)) :: cl mb 64 #[.slice (some ⟨bb, bo, none⟩) rows.length bc, .slice (some ⟨lb, lo, none⟩) rows.length lc] :: Sl 42 (.slice (some ⟨bb, bo, none⟩) rows.length bc) (rvals q) :: Sl 4 (.slice (some ⟨lb, lo, none⟩) rows.length lc) (bools (List.replicate rows.length false)) :: L) →
      SatL w' (SlB 5 v' d :: BaseR mb rows (List.replicate rows.length false) :: L) := by
    intro w' v' h
    have h6 := (big_get (f := RwP) hqk).2 (h.bring [1, 2])
    exact (sat_BaseO.2 ⟨_, _, q, hq, h6.bring [2, 3, 0, 4, 1]⟩).swap
  rw [hd] at hbl
  unfold SlB at h4 hback
  clear h1 hv h2 h1a h hqk hk hq hd hql
  generalize hX : bvs d = X at *
  generalize rows.length = N at *
  go_enter Try.func65, Try.ntmps65
  go_wp2_with (refine wpList_append_sl rfl (.tmp 47) (.tmp 54) rfl elem_byte rfl h4 rfl h5 h9 (by omega) (by unfold maxLen; omega) ?_; intro v' w' h6 _; have h7 := Sl.ofK h6)
  go_ret2
  exact Ret.mk ⟨v', rfl, by unfold SlB; rw [hX]; exact hback _ _ h7⟩
theorem block_ok {k : Nat} {o : Option (List UInt8)} (h : SatL w (BaseR mb rows (List.replicate rows.length false) :: L)) (hk : rows[k]? = some o) (hd : Rows512 rows) (hn : rows.length ≤ 1000000) :
    Calls Try.prog 65 #[.pointer (some ⟨mb, 0, none⟩), .int .i64 k] w (Ret fun v w' => ∃ dv, v = .tuple #[dv, .nilIface] ∧ SatL w' (SlB 5 dv (o.getD zero512) :: BaseR mb rows (List.replicate rows.length false) :: L)) := by
  cases o with
  | none => exact block_none h hk hn
  | some d => exact block_some h hk (hd _ _ hk) hn
end
end Go.Proofs.Ytklnlomleiebaaa
