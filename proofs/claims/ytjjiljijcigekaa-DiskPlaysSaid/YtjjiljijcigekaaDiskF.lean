/- Disks: Flush. No condition. -/
import Derived.Test.YtjjiljijcigekaaDiskD
import Derived.Test.YtjjiljijcigekaaDiskQ
import Derived.Test.YtjjiljijcigekaaRegE
namespace Go.Proofs.Ytjjiljijcigekaa
set_option linter.unusedVariables false
set_option linter.unusedSimpArgs false
open Go.RowKit
/-- a block's bytes are laid over -/
theorem rowAt_lay {fl row : List UInt8} {n i j : Nat} (hl : fl.length = 512 * n) (hr : row.length = 512) (hi : i < n) (hj : j < n) : rowAt (fl.take (512 * i) ++ row ++ fl.drop (512 * i + 512)) j = if j = i then row else rowAt fl j := by
  unfold rowAt
  apply List.ext_getElem?
  intro q
  by_cases hq : q < 512
  · rw [List.getElem?_take, if_pos hq, List.getElem?_drop]
    by_cases hji : j = i
    · subst hji
      rw [if_pos rfl, List.append_assoc, List.getElem?_append_right (by rw [List.length_take]; omega), List.length_take, Nat.min_eq_left (by omega), Nat.add_sub_cancel_left, List.getElem?_append_left (by omega)]
    · rw [if_neg hji, List.getElem?_take, if_pos hq, List.getElem?_drop]
      rcases Nat.lt_or_ge j i with h | h
      · rw [List.append_assoc, List.getElem?_append_left (by rw [List.length_take]; omega), List.getElem?_take, if_pos (by omega)]
      · rw [List.getElem?_append_right (by rw [List.length_append, List.length_take]; omega), List.length_append, List.length_take, List.getElem?_drop]
        congr 1; omega
  · rw [List.getElem?_eq_none (by rw [List.length_take]; omega)]
    split
    · rw [List.getElem?_eq_none (by omega)]
    · rw [List.getElem?_eq_none (by rw [List.length_take]; omega)]
theorem lay_len {fl row : List UInt8} {n i : Nat} (hl : fl.length = 512 * n) (hr : row.length = 512) (hi : i < n) : (fl.take (512 * i) ++ row ++ fl.drop (512 * i + 512)).length = 512 * n := by
  rw [List.length_append, List.length_append, List.length_take, List.length_drop]; omega
theorem bvs_lay (fl row : List UInt8) (i : Nat) : (bvs fl).take (512 * i) ++ bvs row ++ (bvs fl).drop (512 * i + 512) = bvs (fl.take (512 * i) ++ row ++ fl.drop (512 * i + 512)) := by
  rw [bvs, bvs, bvs, List.map_append, List.map_append, List.map_take, List.map_drop]
section
variable {P : Program} {w : World} {l : List HP} {T bytes : Nat} {xs ys zs : List Value}
/-- copy into a part of a row, in a region that has drawn -/
theorem step_copy_sl {ops : Array Oper} {o : Oper} {a : Act} {K : Act → World → Prop} {Q : Exit → Act → World → Prop} {X : Prop} (hgd : o.guard = none) (s x : Operand) {t u : Nat}
    (ho : o.op = .call { callee := .builtin .copy, args := #[s, x], argTypes := #[t, u] }) (E : ElemOk P t T 1 bytes zs) {b off n cap i c d : Nat} (hs : a.eval s = .slice (some ⟨b, off + i, none⟩) d c)
    (h : SatL w (Sl T (.slice (some ⟨b, off, none⟩) n cap) xs :: l)) {y : Value} (hy : a.eval x = y) {m : Nat} (hx : SrcOk P u 1 w y m ys)
    (h1 : ∀ y ∈ ys, y.oneCell' = true) (him : i + m ≤ n) (hmd : m ≤ d)
    (H : ∀ w', SatL w' (Sl T (.slice (some ⟨b, off, none⟩) n cap) (xs.take i ++ ys ++ xs.drop (i + m)) :: l) → K (a.put o.dst (.int .i64 m)) w') :
    if Region.wanted o (yielded ops a.tmps) = true then Oper.wp P o a w K Q else X := by
  have hw : Region.wanted o (yielded ops a.tmps) = true := by simp [Region.wanted, hgd]
  rw [if_pos hw]
  obtain ⟨w', hr, h2⟩ := run_copy_sl (ty := o.type) (c := c) (d := d) E h hx h1 him hmd
  unfold Oper.wp execOp
  simp only [ho, resolve, invoke, builtin, Sem.run_bind, Sem.run_pure, Result.andThen_ok, List.map_toArray, List.map_cons, List.map_nil, hs, hy, hr]
  exact H w' h2
theorem wpList_mapclear_sl {ops : Array Oper} {rest : List Oper} {o : Oper} {a : Act} {Q : Exit → Act → World → Prop} {t kt e0 b : Nat} {es : IM} (hgd : o.guard = none) (s : Operand)
    (ho : o.op = .call { callee := .builtin .clear, args := #[s], argTypes := #[t] }) (hu : P.underlying t = some (.map kt e0)) (hs : a.eval s = .map (some b)) (h : SatL w (MapI b es :: l))
    (H : ∀ w', SatL w' (MapI b [] :: l) → wpList P ops Q rest (a.put o.dst (.tuple #[])) w') : wpList P ops Q (o :: rest) a w :=
  wpList_plain hgd fun _ hK => by
    obtain ⟨w', hr, h2⟩ := run_mapclear_sl (ty := o.type) hu h
    unfold Oper.wp execOp
    simp only [ho, resolve, invoke, builtin, Sem.run_bind, Sem.run_pure, Result.andThen_ok, List.map_toArray, List.map_cons, List.map_nil, hs, hr]
    exact hK _ _ (H w' h2)
end
theorem ofget_mem {α : Type} {rs : List (Rf α)} (hn : (mkeys (rfm rs)).Nodup) {r : Rf α} (hr : r ∈ rs) : ofget rs r.k = some r.xs := by
  induction rs with
  | nil => cases hr
  | cons x rs ih =>
    have hn' : (x.k :: mkeys (rfm rs)).Nodup := hn
    rw [List.nodup_cons] at hn'
    unfold ofget
    rw [List.find?_cons]
    by_cases hx : x.k = r.k
    · rcases List.mem_cons.1 hr with rfl | hr
      · simp
      · exact absurd (by rw [hx]; exact List.mem_map_of_mem (List.mem_map_of_mem (f := fun r : Rf α => (r.k, r.v)) hr)) hn'.1
    · rcases List.mem_cons.1 hr with rfl | hr
      · exact absurd rfl hx
      · have : (x.k == r.k) = false := by simp [hx]
        rw [this]
        exact ih hn'.2 hr
/-- what stays when all is flushed -/
def Dsk.flushed (s : Dsk) : Dsk := ⟨s.n, s.cur, fun _ => []⟩
def lay (row fl : List UInt8) (i : Nat) : List UInt8 := fl.take (512 * i) ++ row ++ fl.drop (512 * i + 512)
def rgLeft (w : World) (b r : Nat) : Nat := match w.heap[b]?, w.heap[r]? with | some (.map en _), some (.mapIter _ _ seen _) => (leftOf en seen).size | _, _ => 0
section
variable {w : World} {L : List HP} {db : Nat} {s : Dsk}
theorem MapRg.left_eq {b r : Nat} {es left : IM} (h : SatL w (MapRg b r es left :: L)) : rgLeft w b r = left.length := by
  obtain ⟨en, clock, since, seen, c0, ⟨h1, h2, h3, h4, h5, h5b, h6⟩, hs⟩ := sat_MapRg.1 h
  have hb := hs.heap
  have hr := (SatL.swap hs).heap
  unfold rgLeft
  rw [hb, hr]
  have := congrArg List.length h6
  rw [List.length_map, List.length_map] at this
  simpa using this
/-- the entries of the map of versions -/
theorem vers_ent {fl : List UInt8} (ok : DOk s fl) {rs : List (Rf (List (List UInt8)))} (hrs : vf s.V = ofget rs) (hnd : (mkeys (rfm rs)).Nodup) : ∀ r ∈ rs, ∃ i : Nat, r.k = i ∧ i < s.n ∧ s.V i = r.xs ∧ r.xs ≠ [] := by
  intro r hr
  have h := ofget_mem hnd hr
  rw [← hrs] at h
  unfold vf at h
  split at h
  · rename_i hc
    injection h with h
    refine ⟨r.k.toNat, by omega, ?_, h, by rw [← h]; exact hc.2⟩
    rcases Nat.lt_or_ge r.k.toNat s.n with h1 | h1
    · exact h1
    · exact absurd (ok.out _ h1) hc.2
  · cases h
theorem vers_off {rs : List (Rf (List (List UInt8)))} (hrs : vf s.V = ofget rs) {i : Nat} (h : ¬ (i : Int) ∈ mkeys (rfm rs)) : s.cur i = s.P i := by
  rw [mem_rfm, ← hrs] at h
  have hv : s.V i = [] := by
    rcases Classical.em (s.V i = []) with h1 | h1
    · exact h1
    · rw [vf_some h1] at h; exact absurd rfl h
  unfold Dsk.cur
  rw [hv]; rfl
theorem cur_some {i : Nat} {l : List (List UInt8)} (h : s.V i = l) (hne : l ≠ []) : l[l.length - 1]? = some (s.cur i) := by
  unfold Dsk.cur
  rw [h, ← List.getLast?_eq_getElem?]
  cases hl : l.getLast? with
  | none => exact absurd (List.getLast?_eq_none_iff.1 hl) hne
  | some r => rfl
set_option maxRecDepth 100000 in
set_option maxHeartbeats 4000000 in
theorem flush_ok (h : SatL w (DskR db s :: L)) :
    Calls Try.prog 16 #[.pointer (some ⟨db, 0, none⟩)] w (Ret fun r w' => SatL w' (DskR db s.flushed :: L)) := by
  obtain ⟨b, off, c, m, fl, ok, q1, q2, h1⟩ := DskR.form h
  have c1 := SatL.cell h1 (i := 1) (v := .map (some m)) rfl
  obtain ⟨rs, hrs, h2⟩ := sat_MapF.1 (SatL.pull h1 2 : SatL w (MapF RowsL m (vf s.V) :: _))
  have hnd := MapI.nodup h2
  obtain ⟨w1, hrun, h3⟩ := run_range_sl (P := Try.prog) (t := 57) (kt := 3) (e0 := 64) (by kernel_rfl) h2
  have Hent := hid (vers_ent ok hrs hnd)
  have hoff := fun (i : Nat) => vers_off (s := s) hrs (i := i)
  have Ok := hid ok
  have hbd := ok.bd
  have h0 : ∀ i, i < s.n → rowAt fl i = if (i : Int) ∈ mkeys (rfm rs) then s.P i else s.cur i := by
    intro i hi
    split
    · exact ok.pl i hi
    · rename_i hk; rw [hoff i hk]; exact ok.pl i hi
  have H0 := hid (And.intro ok.len (And.intro h0 (And.intro (fun (p : Int × Value) (hp : p ∈ rfm rs) => hp) hnd)))
  clear ok hrs hnd hoff h0 h h1 h2
  generalize w.heap.size = ib at *
  go_enter Try.func16, Try.ntmps16
  go_wp2
  go_loopw [2] (fun _ wr => ∃ (left : IM) (fl' : List UInt8), (fl'.length = 512 * s.n ∧ (∀ i, i < s.n → rowAt fl' i = if (i : Int) ∈ mkeys left then s.P i else s.cur i) ∧ (∀ p, p ∈ left → p ∈ rfm rs) ∧ (mkeys left).Nodup) ∧ SatL wr (SlB 5 (.slice (some ⟨b, off, none⟩) (512 * s.n) c) fl' :: MapRg m ib (rfm rs) left :: big (fun r : Rf (List (List UInt8)) => RowsL r.v r.xs) rs :: cl db 59 #[.slice (some ⟨b, off, none⟩) (512 * s.n) c, .map (some m)] :: L)) (fun _ wr => rgLeft wr m ib)
  case atStart => exact ⟨_, _, H0.out, h3.bring [3, 0, 1, 2]⟩
  case round =>
    clear h3 hrun c1 H0
    obtain ⟨left, fl', hF, hs⟩ := hrel
    have hm0 := MapRg.left_eq (SatL.pull hs 1 : SatL wr (MapRg m ib (rfm rs) left :: _))
    rcases run_next_sl (P := Try.prog) 0 (SatL.pull hs 1 : SatL wr (MapRg m ib (rfm rs) left :: _)) with ⟨hl, hrun⟩ | ⟨L1, L2, p, w2, hl, hrun, h4⟩
    · have hr' : ∀ ty, (Instr.next (.pointer (some ⟨ib, 0, none⟩)) false ty).run Try.prog wr = .ok (.tuple #[.bool false]) wr := fun ty => hrun
      subst hl
      have c1 := SatL.cell (SatL.pull hs 3 : SatL wr (cl db _ _ :: _)) (i := 1) (v := .map (some m)) rfl
      have hM := MapRg.map (SatL.pull hs 1 : SatL wr (MapRg m ib (rfm rs) [] :: _))
      have hF2 := hid hF
      clear hF hrun hm0 hs
      obtain ⟨w5, hclr, h5⟩ := run_mapclear_sl (P := Try.prog) (ty := 0) (t := 57) (kt := 3) (e0 := 64) (by kernel_rfl) hM
      go_wp2
      go_end0
      have h6 := ((big_nil (f := fun r : Rf (List (List UInt8)) => RowsL r.v r.xs)).2 h5).swap
      have hmf := (sat_MapF (F := RowsL) (m := m) (f := fun _ => none)).2 ⟨[], rfl, h6⟩
      rw [← vf_nil] at hmf
      have hok : DOk s.flushed fl' := ⟨Ok.out.bd, hF2.out.1, fun i hi => by rw [hF2.out.2.1 i hi, if_neg (by simp [mkeys])]; rfl, fun _ _ => rfl, fun i r hr => absurd (show r ∈ ([] : List (List UInt8)) from hr) List.not_mem_nil⟩
      exact Ret.mk (SatL.tail ((sat_DskR.2 ⟨_, _, _, hok, hmf.bring [3, 1, 0]⟩).bring [1, 0]))
    · have hr' : ∀ ty, (Instr.next (.pointer (some ⟨ib, 0, none⟩)) false ty).run Try.prog wr = .ok (.tuple #[.bool true, .int .i64 p.1, p.2]) w2 := fun ty => hrun
      have hen := run_entry_sl (P := Try.prog) h4
      obtain ⟨hlen, hrow, hin, hnd⟩ := hF
      obtain ⟨r, hr, rfl⟩ := List.mem_map.1 (hin p (by rw [hl]; simp))
      obtain ⟨i, hri, hisn, hVi, hne⟩ := Hent.out r hr
      have hcu := cur_some hVi hne
      have h5 := MapRgAt.rg h4
      obtain ⟨A, B, hAB⟩ := List.append_of_mem hr
      have h6 := (SatL.pull h5 2 : SatL w2 (big (fun r : Rf (List (List UInt8)) => RowsL r.v r.xs) rs :: _))
      rw [hAB] at h6
      obtain ⟨ua, uc, hv, u1, u2, hrd⟩ := RowsL.rd ((big_mid (f := fun r : Rf (List (List UInt8)) => RowsL r.v r.xs)).1 h6)
      obtain ⟨vb, vo, rfl, hrd2⟩ := hrd (List.length_pos_iff.2 hne)
      obtain ⟨u, cu, hru⟩ := hrd2 _ _ hcu
      clear hrd2
      have hcl : (s.cur i).length = 512 := cur_len Ok.out hisn
      have hsrc := SrcOk.ofRdB (show RdB u (s.cur i) w2.drew from hru)
      rw [hcl] at hsrc
      have hpl : left.length = L1.length + (L2.length + 1) := by rw [hl, List.length_append, List.length_cons]
      have hnew : Hid ((lay (s.cur i) fl' i).length = 512 * s.n ∧ (∀ j, j < s.n → rowAt (lay (s.cur i) fl' i) j = if (j : Int) ∈ mkeys (L1 ++ L2) then s.P j else s.cur j) ∧ (∀ p, p ∈ L1 ++ L2 → p ∈ rfm rs) ∧ (mkeys (L1 ++ L2)).Nodup) := hid (by
        have hk : (r.k :: mkeys (L1 ++ L2)).Nodup := by
          rw [hl] at hnd
          refine List.Perm.nodup ?_ hnd
          unfold mkeys
          rw [List.map_append, List.map_append, List.map_cons]
          exact List.perm_middle
        rw [List.nodup_cons] at hk
        refine ⟨lay_len hlen hcl hisn, fun j hj => ?_, fun p hp => hin p (by rw [hl]; rcases List.mem_append.1 hp with h | h; exact List.mem_append_left _ h; exact List.mem_append_right _ (List.mem_cons_of_mem _ h)), hk.2⟩
        unfold lay
        rw [rowAt_lay hlen hcl hisn hj]
        by_cases hji : j = i
        · subst hji
          rw [if_pos rfl, if_neg (by rw [← hri]; exact hk.1)]
        · rw [if_neg hji, hrow j hj]
          have : ((j : Int) ∈ mkeys left) ↔ ((j : Int) ∈ mkeys (L1 ++ L2)) := by
            rw [hl]
            unfold mkeys
            rw [List.map_append, List.map_append, List.map_cons, List.mem_append, List.mem_append, List.mem_cons]
            constructor
            · rintro (h | h | h)
              · exact .inl h
              · exact absurd (by rw [hri] at h; omega) hji
              · exact .inr h
            · rintro (h | h)
              · exact .inl h
              · exact .inr (.inr h)
          simp only [this])
      have c0 := SatL.cell (SatL.pull h5 3 : SatL w2 (cl db _ _ :: _)) (i := 0) (v := .slice (some ⟨b, off, none⟩) (512 * s.n) c) rfl
      have hst := stays_eq (w := w2.drew) (db := db) hisn hbd.2 ⟨q1, q2⟩ c0
      have hP := sat_drew.2 (SatL.pull h5 1 : SatL w2 (SlB 5 _ fl' :: _))
      have S0 : w2.drew.cell? ⟨vb, vo + (r.xs.length - 1), none⟩ = some u := cu
      rw [hri, hv] at hr' hen
      have him : 512 * i + 512 ≤ 512 * s.n := by omega
      obtain ⟨vk, hvk⟩ : ∃ vk, r.xs.length = vk + 1 := ⟨r.xs.length - 1, by have := List.length_pos_iff.2 hne; omega⟩
      have ew : IntKind.i64.wrap (vk : Int) = vk := IntWalk.i64_in _ (by omega)
      have ez : (vk : Int) < vk + 1 := by omega
      have Hm := hid hm0
      have Hpl := hid hpl
      rw [hvk] at hr' hen S0
      rw [Nat.add_sub_cancel] at S0
      generalize s.cur i = cuI at *
      generalize r.xs = rxs at *
      generalize r.v = rv at *
      generalize r.k = rk at *
      clear hr hri hVi hne hcu hAB h6 hv hrd hvk hru hcl hlen hrow hin hnd hl hpl hm0 hs h4 hrun u1 u2 cu c0
      go_wp2
      refine GoE.start (fun w' => w'.cell? ⟨vb, vo + vk, none⟩ = some u) 9 10 rfl (by kernel_rfl) ?_
      refine GoE.take (i := 0) (v := ?_) rfl (by decide) (by kernel_rfl) (by kernel_rfl) (by kernel_rfl) (by kernel_rfl) (fun _ _ _ h => h) (by rfl) ?_ (by assumption) ?_
      rotate_left
      · intro w hSw; (try dsimp only at hSw); go_simp; try (with_reducible rfl)
      try simp only [Act.put, List.setIfInBounds_toArray, List.set_cons_zero, List.set_cons_succ]
      refine GoE.take (i := 1) (v := ?_) rfl (by decide) (by kernel_rfl) (by kernel_rfl) (by kernel_rfl) (by kernel_rfl) (fun _ _ _ h => h) (by rfl) ?_ (by assumption) ?_
      rotate_left
      · intro w hSw; (try dsimp only at hSw); go_simp; try (with_reducible rfl)
      try simp only [Act.put, List.setIfInBounds_toArray, List.set_cons_zero, List.set_cons_succ]
      refine GoE.take (i := 3) (v := ?_) rfl (by decide) (by kernel_rfl) (by kernel_rfl) (by kernel_rfl) (by kernel_rfl) (fun _ _ _ h => h) (by rfl) ?_ (by assumption) ?_
      rotate_left
      · intro w hSw; (try dsimp only at hSw); go_simp; try (with_reducible rfl)
      try simp only [Act.put, List.setIfInBounds_toArray, List.set_cons_zero, List.set_cons_succ]
      refine GoE.take (i := 4) (v := ?_) rfl (by decide) (by kernel_rfl) (by kernel_rfl) (by kernel_rfl) (by kernel_rfl) (fun _ _ _ h => h) (by rfl) ?_ (by assumption) ?_
      rotate_left
      · intro w hSw; (try dsimp only at hSw); go_simp; try (with_reducible rfl)
      try simp only [Act.put, List.setIfInBounds_toArray, List.set_cons_zero, List.set_cons_succ]
      refine GoE.take (i := 5) (v := ?_) rfl (by decide) (by kernel_rfl) (by kernel_rfl) (by kernel_rfl) (by kernel_rfl) (fun _ _ _ h => h) (by rfl) ?_ (by assumption) ?_
      rotate_left
      · intro w hSw; (try dsimp only at hSw); go_simp; try (with_reducible rfl)
      try simp only [Act.put, List.setIfInBounds_toArray, List.set_cons_zero, List.set_cons_succ]
      refine GoE.take (i := 6) (v := ?_) rfl (by decide) (by kernel_rfl) (by kernel_rfl) (by kernel_rfl) (by kernel_rfl) (fun _ _ _ h => h) (by rfl) ?_ (by assumption) ?_
      rotate_left
      · intro w hSw; (try dsimp only at hSw); go_simp; try (with_reducible rfl)
      try simp only [Act.put, List.setIfInBounds_toArray, List.set_cons_zero, List.set_cons_succ]
      refine GoE.take (i := 7) (v := ?_) rfl (by decide) (by kernel_rfl) (by kernel_rfl) (by kernel_rfl) (by kernel_rfl) (fun _ _ _ h => h) (by rfl) ?_ (by assumption) ?_
      rotate_left
      · intro w hSw; (try dsimp only at hSw); go_simp; try (with_reducible rfl)
      try simp only [Act.put, List.setIfInBounds_toArray, List.set_cons_zero, List.set_cons_succ]
      refine GoE.take (i := 8) (v := ?_) rfl (by decide) (by kernel_rfl) (by kernel_rfl) (by kernel_rfl) (by kernel_rfl) (fun _ _ _ h => h) (by rfl) ?_ (by assumption) ?_
      rotate_left
      · intro w hSw; (try dsimp only at hSw); go_simp; try (with_reducible rfl)
      try simp only [Act.put, List.setIfInBounds_toArray, List.set_cons_zero, List.set_cons_succ]
      refine GoE.one (i := 2) rfl (by kernel_rfl) (fun K hK => ?_)
      go_simp
      go_at_call 25
      (with_reducible refine hst.mono ?_)
      rintro e w' ⟨v, rfl, rfl, rfl⟩
      go_wp2_with fail
      refine hK.out _ _ (fun _ => S0) ?_
      clear hK K
      try simp only [Act.put, List.setIfInBounds_toArray, List.set_cons_zero, List.set_cons_succ]
      refine GoE.one (i := 9) rfl (by kernel_rfl) (fun K hK => ?_)
      refine step_copy_sl (c := c - 512 * i) rfl (.tmp 16) (.tmp 22) rfl elem_byte rfl hP rfl hsrc (bvs_one _) him (by omega) ?_
      intro w6 h6
      refine hK.out _ _ (fun h => absurd rfl h) ?_
      clear hK K
      try simp only [Act.put, List.setIfInBounds_toArray, List.set_cons_zero, List.set_cons_succ]
      refine GoE.done (by kernel_rfl) ?_
      rw [bvs_lay] at h6
      have hm6 := MapRg.left_eq (SatL.pull h6 1 : SatL w6 (MapRg m ib (rfm rs) (L1 ++ L2) :: _))
      have Hm6 := hid hm6
      clear hm6
      go_wp2
      go_roundw
      case rel => exact ⟨_, _, hnew.out, h6⟩
      case measure => rw [Hm.out, Hm6.out, Hpl.out, List.length_append]; omega
end
end Go.Proofs.Ytjjiljijcigekaa
