/- lose, use, room of a cache that is owned. -/
import Derived.Test.YtlmjjfgnpcghgaaCacheB
import Derived.StillTailTactics
import Derived.Deep.RegionLaw
namespace Go.Proofs.Ytlmjjfgnpcghgaa
set_option linter.unusedVariables false
set_option linter.unusedSimpArgs false
open Go.RowKit

def atBlk (b : Nat) (v : Value) : Bool := match v with | .pointer (some a) => a.block == b | _ => false

theorem sized {P : Program} {e k : Nat} (h : (P.info? e).map (·.size) = some k) (hk : k ≠ 0) : ∃ j, P.info? e = some j ∧ j.size ≠ 0 := by
  cases hi : P.info? e with
  | none => rw [hi] at h; simp at h
  | some i => rw [hi] at h; simp at h; exact ⟨i, rfl, by rw [h]; exact hk⟩
theorem sized_entry : ∃ j, Try.prog.info? 60 = some j ∧ j.size ≠ 0 := sized (k := 4) (by kernel_rfl) (by decide)

section
variable {w : World} {l : List HP} {pb : Nat} {most : Int} {row : List Ent}

/-- y == x, in a function that holds x in a box -/
theorem same_asks (f : Nat) (hf : f = 41 ∨ f = 43) {bx : Nat} {x : Ent} {r1 r2 : List Ent} {P0 : HP} {vs : List Value} (hvs : ∀ v ∈ vs, v ∈ (r1 ++ x :: r2).map eptr) :
    Asks Try.prog f #[.pointer (some ⟨bx, 0, none⟩)] (atBlk x.eb) vs (P0 :: cl bx 54 #[eptr x] :: ER (r1 ++ x :: r2) :: l) := by
  intro v hv w h
  obtain ⟨y, hy, rfl⟩ := List.mem_map.1 (hvs v hv)
  have c0 := (h.pull 1 : SatL w (cl bx _ _ :: _)).cell (i := 0) rfl
  have hx := EntR_open.1 (big_mid.1 (h.pull 2 : SatL w (ER _ :: _)))
  have bx' := hx.heap
  unfold eptr at c0
  obtain ⟨j, hj, hj0⟩ := sized_entry
  by_cases he : y.eb = x.eb
  · have hq := run_eql_ptr_same (P := Try.prog) w (tp := 54) (te := 60) ⟨x.eb, 0, none⟩ Try.underlying54 hj
    have hr : atBlk x.eb (eptr y) = true := by simp [atBlk, eptr, he]
    rw [hr]
    unfold eptr
    rw [he]
    rcases hf with rfl | rfl
    · go_enter Try.func41, Try.ntmps41
      go_wp2
      go_ret
      exact Ret.mk ⟨rfl, h⟩
    · go_enter Try.func43, Try.ntmps43
      go_wp2
      go_ret
      exact Ret.mk ⟨rfl, h⟩
  · have hym : y ∈ r1 ++ r2 := by
      simp only [List.mem_append, List.mem_cons] at hy ⊢
      rcases hy with h | rfl | h
      · exact .inl h
      · exact absurd rfl he
      · exact .inr h
    obtain ⟨a, b, hab⟩ := List.append_of_mem hym
    have by' : w.heap[y.eb]? = some (.cells #[y.dv, .bool y.dirty, .int .i64 y.pins, .int .i64 y.b] 60 (0, 0)) := by
      have h5 := hx
      rw [hab] at h5
      exact (EntR_open.1 (big_mid.1 (h5.pull 2 : SatL w (ER _ :: _)))).heap
    have hq := run_eql_ptr_other (P := Try.prog) w (tp := 54) (te := 60) (a := ⟨y.eb, 0, none⟩) (b := ⟨x.eb, 0, none⟩) Try.underlying54 hj hj0 (fun e => he (congrArg Addr.block e)) by' bx'
    have hr : atBlk x.eb (eptr y) = false := by simp [atBlk, eptr, he]
    rw [hr]
    unfold eptr
    clear bx' by'
    rcases hf with rfl | rfl
    · go_enter Try.func41, Try.ntmps41
      go_wp2
      go_ret
      exact Ret.mk ⟨rfl, h⟩
    · go_enter Try.func43, Try.ntmps43
      go_wp2
      go_ret
      exact Ret.mk ⟨rfl, h⟩

def without (row : List Ent) (k : Int) : List Ent := row.filter fun y => !(y.b == k)

theorem without_mid {r1 r2 : List Ent} {x : Ent} (h1 : ∀ y ∈ r1, ¬ y.b = x.b) (h2 : ∀ y ∈ r2, ¬ y.b = x.b) : without (r1 ++ x :: r2) x.b = r1 ++ r2 := by
  have e : ∀ r : List Ent, (∀ y ∈ r, ¬ y.b = x.b) → without r x.b = r := fun r h => by
    unfold without; rw [List.filter_eq_self]; intro y hy; simpa using h y hy
  have a : without (r1 ++ x :: r2) x.b = without r1 x.b ++ without (x :: r2) x.b := by simp [without]
  have b : without (x :: r2) x.b = without r2 x.b := by simp [without]
  rw [a, b, e r1 h1, e r2 h2]

theorem eptr_filter {r1 r2 : List Ent} {x : Ent} (h : SatL w (ER (r1 ++ x :: r2) :: l)) : ((r1 ++ x :: r2).map eptr).filter (fun v => !atBlk x.eb v) = (r1 ++ r2).map eptr := by
  have hne : ∀ y ∈ r1 ++ r2, atBlk x.eb (eptr y) = false := fun y hy => by simp [atBlk, eptr, ER_apart h hy]
  have e : ∀ r : List Ent, (∀ y ∈ r, y ∈ r1 ++ r2) → (r.map eptr).filter (fun v => !atBlk x.eb v) = r.map eptr := fun r hr => by
    rw [List.filter_eq_self]; intro v hv; obtain ⟨y, hy, rfl⟩ := List.mem_map.1 hv; simp [hne y (hr y hy)]
  rw [List.map_append, List.filter_append, List.map_cons, List.filter_cons]
  have : atBlk x.eb (eptr x) = true := by simp [atBlk, eptr]
  simp only [this, Bool.not_true, Bool.false_eq_true, if_false]
  rw [e r1 (fun y hy => by simp [hy]), e r2 (fun y hy => by simp [hy]), List.map_append]

theorem MapOk.lose {es : IM} {r1 r2 : List Ent} {x : Ent} (h : MapOk es (r1 ++ x :: r2)) : MapOk (mdel es x.b) (r1 ++ r2) := by
  have hn := h.nodup
  simp only [List.map_append, List.map_cons] at hn
  have hn' := (List.perm_middle.nodup_iff).1 hn
  rw [List.nodup_cons] at hn'
  refine ⟨fun k => ?_, by simpa using hn'.2⟩
  rw [mget_del]
  by_cases hk : k = x.b
  · subst hk
    rw [if_pos rfl]
    symm
    rw [Option.map_eq_none_iff, List.find?_eq_none]
    intro y hy
    have : ¬ y.b = x.b := fun e => hn'.1 (by rw [← e, ← List.map_append]; exact List.mem_map.2 ⟨y, hy, rfl⟩)
    simp [has, this]
  · rw [if_neg hk, h.look, List.find?_append, List.find?_append, List.find?_cons]
    have : has k x = false := by simp [has]; exact fun e => hk e.symm
    rw [this]

set_option maxHeartbeats 400000 in
theorem lose_ok {r1 r2 : List Ent} {x : Ent} (h : SatL w (CacheR pb most (r1 ++ x :: r2) :: l)) :
    Calls Try.prog 31 #[.pointer (some ⟨pb, 0, none⟩), .pointer (some ⟨x.eb, 0, none⟩)] w (Ret (UnitPost (CacheR pb most (r1 ++ r2) :: l))) := by
  obtain ⟨rv, mb, es, hm, h⟩ := Cache_open.1 h
  have hb := h.alloc (.cells #[eptr x] 54)
  have c2 := (hb.pull 1 : SatL _ (CacheC _ _ _ _ :: _)).cell (i := 2) rfl
  have c1 := (hb.pull 1 : SatL _ (CacheC _ _ _ _ :: _)).cell (i := 1) rfl
  have hs := focus.1 h
  have d3 := (hs.swap.tail.alloc (.cells #[eptr x] 54))
  have e3 := (EntR_open.1 (big_mid.1 (hb.pull 4 : SatL _ (ER _ :: _)))).cell (i := 3) rfl
  unfold eptr at *
  go_enter Try.func31, Try.ntmps31
  go_wp2
  generalize w.alloc (Obj.cells #[Value.pointer (some { block := x.eb, off := 0 })] 54) = w1 at *
  generalize w.heap.size = bx at *
  have b0 := hb.cell (i := 0) rfl
  set_option maxRecDepth 100000 in go_still_tail 8, (by kernel_rfl)
  refine wpList_delete_sl rfl (.tmp 7) (.tmp 11) rfl key_entry rfl (hb.bring [3] : SatL w1.drew _) rfl ?_
  intro w2 h2
  have c3 := (h2.bring [2] : SatL w2 (CacheC _ _ _ _ :: _)).cell (i := 1) rfl
  have hd : SatL w2 (Sl _ rv ((r1 ++ x :: r2).map eptr) :: cl bx _ #[eptr x] :: ER (r1 ++ x :: r2) :: MapI mb (mdel es x.b) :: CacheC pb most rv mb :: l) := h2.bring [3, 1, 4, 0, 2]
  have hflt := eptr_filter (hd.bring [2])
  have hdf := deleteFunc_ent 43 #[.pointer (some ⟨bx, 0, none⟩)] (atBlk x.eb) rv _ _ w2 hd (fun args w => by kernel_rfl) (by intro v hv; obtain ⟨y, _, rfl⟩ := List.mem_map.1 hv; exact ⟨_, rfl⟩) (fun ys _ => same_asks _ (.inr rfl) (fun v h => h))
  rw [hflt] at hdf
  go_wp2_with (refine hdf.mono ?_; rintro e w' ⟨v, rfl, hs'⟩; obtain ⟨a, n, c, rfl⟩ := Sl.val hs'; have c4 := (SatL.bring hs' [4] : SatL w' (CacheC _ _ _ _ :: _)).cell (i := 1) rfl; have f4 := (SatL.bring hs' [4] : SatL w' (CacheC _ _ _ _ :: _)).free 1)
  go_end0
  refine Ret.mk ⟨rfl, Cache_open.2 ⟨.slice a n c, mb, mdel es x.b, hm.lose, ?_⟩⟩
  have h5 := (SatL.bring hs' [4] : SatL w' (CacheC _ _ _ _ :: _)).set (i := 1) (.slice a n c)
  have h6 := (h5.bring [3] : SatL _ (ER _ :: _))
  have h7 := (big_mid.1 h6).tail
  exact (SatL.tail (h7.bring [3])).bring [1, 2, 3]

/-- the row behind 'use', of a row all of whose entries are among those that are owned -/
theorem elem_ptr : ElemOk Try.prog 51 54 1 8 [Value.pointer none] := elem_ent

theorem fin_a {A B C D : HP} {n : Nat} {v : Value} {xs : List Value} (h : SatL w (SlK 54 1 v n xs :: A :: B :: C :: D :: l)) : SatL w (D :: Sl 54 v xs :: C :: l) :=
  SatL.swap (Sl.ofK (SatL.tail (SatL.tail (SatL.bring h [1, 2, 0, 4, 3]))))
theorem fin_b {A B C D : HP} {n : Nat} {v : Value} {xs : List Value} (h : SatL w (SlK 54 1 v n xs :: A :: B :: C :: D :: l)) : SatL w (C :: Sl 54 v xs :: B :: l) :=
  SatL.swap (Sl.ofK (SatL.tail (SatL.tail (SatL.bring h [1, 4, 0, 3, 2]))))

set_option maxHeartbeats 2000000 in
theorem use_ok {r1 r2 row : List Ent} {x : Ent} {rv : Value} {mb : Nat} (hsub : ∀ y ∈ row, y ∈ r1 ++ x :: r2) (hlen : row.length ≤ 100000)
    (h : SatL w (CacheC pb most rv mb :: Sl 54 rv (row.map eptr) :: ER (r1 ++ x :: r2) :: l)) :
    Calls Try.prog 26 #[.pointer (some ⟨pb, 0, none⟩), .pointer (some ⟨x.eb, 0, none⟩)] w
      (Ret (UnitPost (ex (fun rv' => sep [CacheC pb most rv' mb, Sl 54 rv' ((row.map eptr).filter (fun v => !atBlk x.eb v) ++ [eptr x])]) :: ER (r1 ++ x :: r2) :: l))) := by
  have hb := h.alloc (.cells #[eptr x] 54)
  go_enter Try.func26, Try.ntmps26
  go_wp2
  unfold eptr at hb
  generalize w.alloc (Obj.cells #[Value.pointer (some { block := x.eb, off := 0 })] 54) = w1 at *
  generalize w.heap.size = bx at *
  have b0 := hb.cell (i := 0) rfl
  have c1 := (hb.pull 1 : SatL w1 (CacheC _ _ _ _ :: _)).cell (i := 1) rfl
  have hd : SatL w1 (Sl _ rv (row.map eptr) :: cl bx _ #[eptr x] :: ER (r1 ++ x :: r2) :: CacheC pb most rv mb :: l) := hb.bring [2, 0, 3, 1]
  have hdf := fun (w1 : World) (l' : List HP) (hd : SatL w1 (Sl 54 rv (row.map eptr) :: cl bx 54 #[eptr x] :: ER (r1 ++ x :: r2) :: CacheC pb most rv mb :: l')) => deleteFunc_ent 41 #[.pointer (some ⟨bx, 0, none⟩)] (atBlk x.eb) rv _ _ w1 hd (fun args w => by kernel_rfl) (by intro v hv; obtain ⟨y, _, rfl⟩ := List.mem_map.1 hv; exact ⟨_, rfl⟩) (fun ys _ => same_asks _ (.inl rfl) (fun v hv => by obtain ⟨y, hy, rfl⟩ := List.mem_map.1 hv; exact List.mem_map.2 ⟨y, hsub y hy, rfl⟩))
  have hd2 : SatL (w1.alloc (.cells #[.pointer (some ⟨x.eb, 0, none⟩)] 54)).drew (Sl _ rv (row.map eptr) :: cl bx _ #[eptr x] :: ER (r1 ++ x :: r2) :: CacheC pb most rv mb :: cl w1.heap.size 54 #[eptr x] :: l) := (SatL.alloc (w := w1) hd _).bring [1, 2, 3, 4, 0]
  have lt1 := hb.lt
  have lt2 : pb < w1.heap.size := (hb.pull 1 : SatL w1 (CacheC _ _ _ _ :: _)).lt
  have hfl : ((row.map eptr).filter (fun v => !atBlk x.eb v)).length ≤ 100000 := by have := List.length_filter_le (fun v => !atBlk x.eb v) (row.map eptr); simp at this ⊢; omega
  generalize hfs : (row.map eptr).filter (fun v => !atBlk x.eb v) = fs at *
  have Hfs := hid hfs; clear hfs
  have hdD : SatL w1.drew (Sl 54 rv (row.map eptr) :: cl bx 54 #[eptr x] :: ER (r1 ++ x :: r2) :: CacheC pb most rv mb :: l) := hd
  have k1 := hdf _ _ hdD
  have k2 := hdf _ _ hd2
  have hbb : (fs.length + 1) * 8 ≤ 140737488355328 := by omega
  have h63 : fs.length + 1 ≤ maxLen := by unfold maxLen; omega
  have hone : ∀ y ∈ [eptr x], y.oneCell' = true := by simp [eptr, Value.oneCell']
  have tok0 : True := trivial
  go_region_law
    (first
      | (have _t := tok0; go_simp; go_at_call 40; (with_reducible refine k1.mono ?_); clear tok0; have tokA : True := trivial; rintro e w' ⟨v, rfl, hs'⟩; obtain ⟨a, n, c, rfl⟩ := Sl.val hs'; have b2 : w'.cell? ⟨bx, 0, none⟩ = some (.pointer (some ⟨x.eb, 0, none⟩)) := (SatL.bring hs' [1] : SatL w' (cl bx _ #[eptr x] :: _)).cell (i := 0) rfl; have c2 : w'.cell? ⟨pb, 1, none⟩ = some rv := (SatL.bring hs' [3] : SatL w' (CacheC _ _ _ _ :: _)).cell (i := 1) rfl)
      | (have _t := tok0; go_simp; go_at_call 40; (with_reducible refine k2.mono ?_); clear tok0; have tokB : True := trivial; rintro e w' ⟨v, rfl, hs'⟩; obtain ⟨a, n, c, rfl⟩ := Sl.val hs'; have b2 : w'.cell? ⟨bx, 0, none⟩ = some (.pointer (some ⟨x.eb, 0, none⟩)) := (SatL.bring hs' [1] : SatL w' (cl bx _ #[eptr x] :: _)).cell (i := 0) rfl; have c2 : w'.cell? ⟨pb, 1, none⟩ = some rv := (SatL.bring hs' [3] : SatL w' (CacheC _ _ _ _ :: _)).cell (i := 1) rfl)
      | (have _t := tokA; refine step_append_sl rfl (.tmp 10) (.tmp 12) rfl elem_ptr rfl (Sl.toK (SatL.swap (SatL.alloc hs' (.cells #[eptr x] 54))) rfl) rfl (SrcOk.ofCl (n := 1) elem_ptr.under (SatL.alloc hs' (.cells #[eptr x] 54)) rfl 1) hone hbb h63 ?_; intro v' w2 h6 _; obtain ⟨a', n', c', rfl⟩ := SlK.val h6; have b2 : w2.cell? ⟨bx, 0, none⟩ = some (.pointer (some ⟨x.eb, 0, none⟩)) := (SatL.bring h6 [2] : SatL w2 (cl bx _ #[eptr x] :: _)).cell (i := 0) rfl; have c2 : w2.cell? ⟨pb, 1, none⟩ = some rv := (SatL.bring h6 [4] : SatL w2 (CacheC _ _ _ _ :: _)).cell (i := 1) rfl; have f2 := (SatL.bring h6 [4] : SatL w2 (CacheC _ _ _ _ :: _)).free 1)
      | (have _t := tokB; refine step_append_sl rfl (.tmp 10) (.tmp 12) rfl elem_ptr rfl (Sl.toK hs' rfl) rfl (SrcOk.ofCl (b := w1.heap.size) (n := 1) elem_ptr.under (SatL.bring hs' [4]) rfl 1) hone hbb h63 ?_; intro v' w2 h6 _; obtain ⟨a', n', c', rfl⟩ := SlK.val h6; have b2 : w2.cell? ⟨bx, 0, none⟩ = some (.pointer (some ⟨x.eb, 0, none⟩)) := (SatL.bring h6 [1] : SatL w2 (cl bx _ #[eptr x] :: _)).cell (i := 0) rfl; have c2 : w2.cell? ⟨pb, 1, none⟩ = some rv := (SatL.bring h6 [3] : SatL w2 (CacheC _ _ _ _ :: _)).cell (i := 1) rfl; have f2 := (SatL.bring h6 [3] : SatL w2 (CacheC _ _ _ _ :: _)).free 1)
      | fail "no arm")
  all_goals
    go_end0
    refine Ret.mk ⟨rfl, ?_⟩
    rw [Hfs.out]
    have hfin : SatL w2 (CacheC pb most rv mb :: Sl 54 (.slice a' n' c') (fs ++ [eptr x]) :: ER (r1 ++ x :: r2) :: l) := by
      first
        | exact fin_a h6
        | exact fin_b h6
    exact sat_ex.2 ⟨_, sat_sep.2 (hfin.set (i := 1) (.slice a' n' c'))⟩
end
end Go.Proofs.Ytlmjjfgnpcghgaa
