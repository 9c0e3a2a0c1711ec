/- Maps with keys of type int, as resources. No condition. -/
import Derived.Test.YtklnlomleiebaaaSlice
namespace Go.Proofs.Ytklnlomleiebaaa
set_option linter.unusedVariables false
set_option linter.unusedSimpArgs false
open Go.RowKit

abbrev IM := List (Int × Value)
def mget (es : IM) (k : Int) : Option Value := (es.find? (fun p => p.1 == k)).map (·.2)
def mput (es : IM) (k : Int) (v : Value) : IM := if (mget es k).isSome then es.map (fun p => if p.1 == k then (k, v) else p) else es ++ [(k, v)]
def mdel (es : IM) (k : Int) : IM := es.filter (fun p => !(p.1 == k))
def mkeys (es : IM) : List Int := es.map (·.1)

/-- the stamps of a map's entries: no one stands twice, all are older than the clock -/
def Stamps (en : Array MapEntry) (clock : Nat) : Prop := (en.toList.map (·.born)).Nodup ∧ ∀ x ∈ en.toList, x.born < clock
theorem Stamps.nil (clock : Nat) : Stamps #[] clock := ⟨by simp, by simp⟩
theorem Stamps.push {en : Array MapEntry} {clock : Nat} (h : Stamps en clock) (k v : Value) : Stamps (en.push ⟨k, v, clock⟩) (clock + 1) := by
  refine ⟨?_, ?_⟩
  · simp only [Array.toList_push, List.map_append, List.map_cons, List.map_nil]
    refine List.nodup_append.2 ⟨h.1, by simp, fun a ha c hc e => ?_⟩
    simp only [List.mem_singleton] at hc
    obtain ⟨x, hx, rfl⟩ := List.mem_map.1 ha
    have := h.2 x hx
    omega
  · intro x hx
    simp only [Array.toList_push, List.mem_append, List.mem_singleton] at hx
    rcases hx with hx | rfl
    · have := h.2 x hx; omega
    · show clock < clock + 1; omega
theorem Stamps.modify {en : Array MapEntry} {clock : Nat} (h : Stamps en clock) (j : Nat) (f : MapEntry → MapEntry) (hf : ∀ x, (f x).born = x.born) : Stamps (en.modify j f) clock := by
  have e : (en.modify j f).toList.map (·.born) = en.toList.map (·.born) := by
    apply List.ext_getElem?
    intro i
    simp only [List.getElem?_map, Array.getElem?_toList, Array.getElem?_modify]
    split
    · cases en[i]? <;> simp [hf]
    · rfl
  refine ⟨by rw [e]; exact h.1, fun x hx => ?_⟩
  have : x.born ∈ (en.modify j f).toList.map (·.born) := List.mem_map.2 ⟨x, hx, rfl⟩
  rw [e] at this
  obtain ⟨y, hy, e2⟩ := List.mem_map.1 this
  rw [← e2]; exact h.2 y hy
theorem Stamps.erase {en : Array MapEntry} {clock : Nat} (h : Stamps en clock) (j : Nat) : Stamps (en.eraseIdxIfInBounds j) clock := by
  have hs : List.Sublist (en.eraseIdxIfInBounds j).toList en.toList := by rw [Array.toList_eraseIdxIfInBounds]; exact List.eraseIdx_sublist _ _
  exact ⟨h.1.sublist (hs.map _), fun x hx => h.2 x (hs.subset hx)⟩

/-- block b is a map with these entries, in this order; no key stands twice -/
def MapI (b : Nat) (es : IM) : HP := fun e h => (mkeys es).Nodup ∧ ∃ (en : Array MapEntry) (clock : Nat), en.toList.map (fun x => (x.key, x.val)) = es.map (fun p => (Value.int .i64 p.1, p.2)) ∧ Stamps en clock ∧ pt b (.map en clock) e h

structure KeyInt (P : Program) (t e : Nat) (z : Value) : Prop where
  under : ∃ kt, P.underlying t = some (.map kt e) ∧ P.underlying kt = some (.int .i64)
  zero : ∃ i, P.info? e = some i ∧ i.zero = some z

theorem KeyInt.of {P : Program} {t e kt : Nat} {z : Value} (h1 : P.underlying t = some (.map kt e)) (h2 : P.underlying kt = some (.int .i64)) (h3 : (P.info? e).map (·.zero) = some (some z)) : KeyInt P t e z := by
  refine ⟨⟨kt, h1, h2⟩, ?_⟩
  cases hi : P.info? e with
  | none => rw [hi] at h3; simp at h3
  | some i => rw [hi] at h3; simp at h3; exact ⟨i, rfl, h3⟩

theorem mget_nil (k : Int) : mget [] k = none := rfl
theorem mget_cons (p : Int × Value) (es : IM) (k : Int) : mget (p :: es) k = if p.1 == k then some p.2 else mget es k := by
  unfold mget
  rw [List.find?_cons]
  cases h : p.1 == k <;> simp
theorem mget_append (a b : IM) (k : Int) : mget (a ++ b) k = (mget a k).or (mget b k) := by
  induction a with
  | nil => simp [mget_nil]
  | cons p a ih => rw [List.cons_append, mget_cons, mget_cons, ih]; split <;> simp
theorem mget_isSome (es : IM) (k : Int) : (mget es k).isSome = true ↔ k ∈ mkeys es := by
  induction es with
  | nil => simp [mget_nil, mkeys]
  | cons p es ih =>
    rw [mget_cons]
    simp only [mkeys, List.map_cons, List.mem_cons] at *
    by_cases h : p.1 = k
    · simp [h]
    · have : (p.1 == k) = false := by simpa using h
      simp only [this, Bool.false_eq_true, if_false, ih]
      constructor
      · exact .inr
      · rintro (h' | h'); exact absurd h'.symm h; exact h'
theorem mget_put (es : IM) (k j : Int) (v : Value) : mget (mput es k v) j = if j = k then some v else mget es j := by
  unfold mput
  by_cases hs : (mget es k).isSome
  · rw [if_pos hs]
    have key : ∀ es : IM, mget (es.map (fun p => if p.1 == k then (k, v) else p)) j = if j = k then (mget es k).map (fun _ => v) else mget es j := by
      intro es
      induction es with
      | nil => simp [mget_nil]
      | cons p es ih =>
        rw [List.map_cons, mget_cons, mget_cons, mget_cons, ih]
        by_cases hpk : p.1 = k
        · by_cases hjk : j = k
          · subst hjk; simp [hpk]
          · have hkj : ¬ k = j := fun e => hjk e.symm
            simp [hpk, hjk, hkj]
        · by_cases hjk : j = k
          · subst hjk; simp [hpk]
          · simp [hpk, hjk]
    rw [key]
    obtain ⟨u, hu⟩ := Option.isSome_iff_exists.1 hs
    split
    · simp [hu]
    · rfl
  · rw [if_neg hs, mget_append, mget_cons, mget_nil]
    have hn : mget es k = none := by simpa using hs
    by_cases hjk : j = k
    · subst hjk; simp [hn]
    · have : ¬ k = j := fun e => hjk e.symm
      simp [hjk, this]
theorem mkeys_put (es : IM) (k : Int) (v : Value) : mkeys (mput es k v) = if k ∈ mkeys es then mkeys es else mkeys es ++ [k] := by
  unfold mput
  by_cases hs : (mget es k).isSome
  · rw [if_pos hs, if_pos ((mget_isSome es k).1 hs)]
    simp only [mkeys, List.map_map]
    apply List.map_congr_left
    intro p hp
    simp only [Function.comp]
    by_cases h : p.1 = k
    · simp [h]
    · simp [h]
  · rw [if_neg hs, if_neg (fun h => hs ((mget_isSome es k).2 h))]
    simp [mkeys]
theorem mput_nodup (es : IM) (k : Int) (v : Value) (h : (mkeys es).Nodup) : (mkeys (mput es k v)).Nodup := by
  rw [mkeys_put]
  split
  · exact h
  · rename_i hk
    rw [List.nodup_append]
    refine ⟨h, by simp, ?_⟩
    intro a ha b hb
    simp at hb; subst hb
    rintro rfl; exact hk ha
theorem mget_del (es : IM) (k j : Int) : mget (mdel es k) j = if j = k then none else mget es j := by
  induction es with
  | nil => simp [mdel, mget_nil]
  | cons p es ih =>
    unfold mdel at *
    rw [List.filter_cons, mget_cons]
    by_cases h : p.1 = k
    · simp only [h, beq_self_eq_true, Bool.not_true, Bool.false_eq_true, if_false, ih]
      by_cases hj : j = k
      · simp [hj]
      · have : ¬ k = j := fun e => hj e.symm
        simp [hj, this]
    · have hb : (p.1 == k) = false := by simpa using h
      simp only [hb, Bool.not_false, if_true, mget_cons, ih]
      by_cases hj : j = k
      · subst hj; simp [hb]
      · simp [hj]
theorem mkeys_del (es : IM) (k : Int) : mkeys (mdel es k) = (mkeys es).filter (fun x => !(x == k)) := by
  unfold mkeys mdel
  rw [List.filter_map]
  rfl
theorem mdel_nodup (es : IM) (k : Int) (h : (mkeys es).Nodup) : (mkeys (mdel es k)).Nodup := by
  rw [mkeys_del]; exact h.filter _

section
variable {P : Program} {w : World} {l : List HP} {b t e : Nat} {z : Value} {es : IM}

theorem sat_MapI : SatL w (MapI b es :: l) ↔ (mkeys es).Nodup ∧ ∃ (en : Array MapEntry) (clock : Nat), en.toList.map (fun x => (x.key, x.val)) = es.map (fun p => (Value.int .i64 p.1, p.2)) ∧ Stamps en clock ∧ SatL w (pt b (.map en clock) :: l) := by
  constructor
  · rintro ⟨h1, h2, ⟨hn, en, c, p, st, q⟩, r⟩; exact ⟨hn, en, c, p, st, h1, h2, q, r⟩
  · rintro ⟨hn, en, c, p, st, h1, h2, q, r⟩; exact ⟨h1, h2, ⟨hn, en, c, p, st, q⟩, r⟩
theorem MapI.nodup (h : SatL w (MapI b es :: l)) : (mkeys es).Nodup := (sat_MapI.1 h).1
theorem MapI.lt (h : SatL w (MapI b es :: l)) : b < w.heap.size := by
  obtain ⟨_, en, c, _, _, h⟩ := sat_MapI.1 h; exact h.lt
theorem MapI.made {n clock : Nat} (h : SatL w (pt n (.map #[] clock) :: l)) : SatL w (MapI n [] :: l) := sat_MapI.2 ⟨by simp [mkeys], #[], clock, rfl, Stamps.nil _, h⟩

theorem findNow_int : ∀ (en : List MapEntry) (es : IM) (k : Int) (i : Nat), en.map (fun x => (x.key, x.val)) = es.map (fun p => (Value.int .i64 p.1, p.2)) →
    ∃ j, Instr.findNow (.int .i64) (.int .i64 k) en i = some ((mget es k).map (fun v => (i + j, v))) ∧ ((mget es k).isSome → j < en.length ∧ (es[j]?).map (·.1) = some k)
  | [], es, k, i, h => by
    have : es = [] := by simpa using h.symm
    subst this
    exact ⟨0, by simp [Instr.findNow, mget_nil], by simp [mget_nil]⟩
  | x :: en, [], k, i, h => by simp at h
  | x :: en, p :: es, k, i, h => by
    simp only [List.map_cons, List.cons.injEq, Prod.mk.injEq] at h
    obtain ⟨⟨hk, hv⟩, hr⟩ := h
    rw [mget_cons]
    simp only [Instr.findNow, hk, Instr.sameNow, if_true]
    by_cases hpk : p.1 = k
    · have e1 : (k == p.1) = true := by simp [hpk]
      refine ⟨0, ?_, ?_⟩
      · simp [hpk, hv]
      · intro _; simp [hpk]
    · have e1 : (k == p.1) = false := by simp; exact fun e => hpk e.symm
      have e2 : (p.1 == k) = false := by simp [hpk]
      obtain ⟨j, hj, hj2⟩ := findNow_int en es k (i + 1) hr
      refine ⟨j + 1, ?_, ?_⟩
      · simp only [e1, e2, Bool.false_eq_true, if_false, hj]
        rw [show i + 1 + j = i + (j + 1) by omega]
      · simp only [e2, Bool.false_eq_true, if_false]
        intro hs
        have := hj2 hs
        simp; exact ⟨by omega, by simpa using this.2⟩

theorem run_findKey_int {kt : Nat} (hkt : P.underlying kt = some (.int .i64)) (en : Array MapEntry) (k : Int) (h : en.toList.map (fun x => (x.key, x.val)) = es.map (fun p => (Value.int .i64 p.1, p.2))) (w : World) :
    ∃ j, (Instr.findKey kt (.int .i64 k) en.toList).run P w = .ok ((mget es k).map (fun v => (j, v))) w ∧ ((mget es k).isSome → j < en.size ∧ (es[j]?).map (·.1) = some k) := by
  obtain ⟨j, h1, h2⟩ := findNow_int en.toList es k 0 h
  refine ⟨j, ?_, by simpa using h2⟩
  simp only [Nat.zero_add] at h1
  simp [Instr.findKey, run_underlying hkt, h1]

theorem run_checkKey_int {kt : Nat} (hkt : P.underlying kt = some (.int .i64)) (emp : Bool) (k : Int) (w : World) : (Instr.checkKey emp 10000 kt (.int .i64 k)).run P w = .ok () w := by
  obtain ⟨n, hn⟩ : ∃ n, 10000 = n + 1 := ⟨9999, rfl⟩
  rw [hn]
  simp [Instr.checkKey, run_underlying hkt]

theorem run_lookup_sl (K : KeyInt P t e z) (h : SatL w (MapI b es :: l)) (k : Int) :
    (Instr.lookup t (.map (some b)) (.int .i64 k) false).run P w = .ok ((mget es k).getD z) w := by
  obtain ⟨kt, hu, hkt⟩ := K.under
  obtain ⟨i, hi, hz⟩ := K.zero
  obtain ⟨_, en, clock, hen, hst, hs⟩ := sat_MapI.1 h
  have hb := hs.heap
  obtain ⟨j, hf, _⟩ := run_findKey_int (P := P) hkt en k hen w
  have hc := run_checkKey_int (P := P) hkt
  cases hm : mget es k <;> simp [Instr.lookup, run_underlying hu, getObj, Sem.run, hb, hc, hf, hm, zeroValue, typeInfo, hi, hz]
theorem run_lookup_ok_sl (K : KeyInt P t e z) (h : SatL w (MapI b es :: l)) (k : Int) :
    (Instr.lookup t (.map (some b)) (.int .i64 k) true).run P w = .ok (.tuple #[(mget es k).getD z, .bool (mget es k).isSome]) w := by
  obtain ⟨kt, hu, hkt⟩ := K.under
  obtain ⟨i, hi, hz⟩ := K.zero
  obtain ⟨_, en, clock, hen, hst, hs⟩ := sat_MapI.1 h
  have hb := hs.heap
  obtain ⟨j, hf, _⟩ := run_findKey_int (P := P) hkt en k hen w
  have hc := run_checkKey_int (P := P) hkt
  cases hm : mget es k <;> simp [Instr.lookup, run_underlying hu, getObj, Sem.run, hb, hc, hf, hm, zeroValue, typeInfo, hi, hz]

theorem setObj_put {w' : World} {o o' : Obj} (h : SatL w (pt b o :: l)) (hw : w' = { w with heap := w.heap.setIfInBounds b o' }) : SatL w' (pt b o' :: l) := by
  subst hw
  refine SatL.put h rfl ?_ ?_
  · show (w.heap.setIfInBounds b o')[b]? = _
    have := h.lt
    simp [this]
  · intro c hc
    show (w.heap.setIfInBounds b o')[c]? = _
    rw [Array.getElem?_setIfInBounds_ne (Ne.symm hc)]

theorem put_entries {en : Array MapEntry} {j : Nat} {k : Int} {u v : Value} (hn : (mkeys es).Nodup) (hen : en.toList.map (fun x => (x.key, x.val)) = es.map (fun p => (Value.int .i64 p.1, p.2))) (hm : mget es k = some u) (hj1 : j < en.size) (hj2 : (es[j]?).map (·.1) = some k) :
    (en.modify j fun e => { e with key := .int .i64 k, val := v }).toList.map (fun x => (x.key, x.val)) = (mput es k v).map (fun p => (Value.int .i64 p.1, p.2)) := by
  obtain ⟨p, hp, hpk⟩ : ∃ p, es[j]? = some p ∧ p.1 = k := by simpa using hj2
  unfold mput
  rw [if_pos (by simp [hm])]
  apply List.ext_getElem?
  intro q
  have hq := congrArg (fun y => y[q]?) hen
  simp only [List.getElem?_map, Array.getElem?_toList, Array.getElem?_modify, Option.map_map] at hq ⊢
  by_cases hjq : j = q
  · subst hjq
    simp [hp, hpk, hj1]
  · rw [if_neg hjq, hq]
    cases hesq : es[q]? with
    | none => rfl
    | some r =>
      have : ¬ r.1 = k := by
        intro hr
        have hnd := List.pairwise_iff_getElem.1 hn
        have hql : q < es.length := (List.getElem?_eq_some_iff.1 hesq).1
        have hjl : j < es.length := (List.getElem?_eq_some_iff.1 hp).1
        have eq1 : es[q].1 = k := by rw [(List.getElem?_eq_some_iff.1 hesq).2]; exact hr
        have eq2 : es[j].1 = k := by rw [(List.getElem?_eq_some_iff.1 hp).2]; exact hpk
        rcases Nat.lt_or_gt_of_ne hjq with hlt | hlt
        · have := hnd j q (by simpa [mkeys] using hjl) (by simpa [mkeys] using hql) hlt
          simp [mkeys, eq1, eq2] at this
        · have := hnd q j (by simpa [mkeys] using hql) (by simpa [mkeys] using hjl) hlt
          simp [mkeys, eq1, eq2] at this
      simp [this]

theorem run_mapUpdate_sl (K : KeyInt P t e z) (h : SatL w (MapI b es :: l)) (k : Int) (v : Value) :
    ∃ w', (Instr.mapUpdate t (.map (some b)) (.int .i64 k) v).run P w = .ok () w' ∧ SatL w' (MapI b (mput es k v) :: l) := by
  obtain ⟨kt, hu, hkt⟩ := K.under
  obtain ⟨hn, en, clock, hen, hst, hs⟩ := sat_MapI.1 h
  have hb := hs.heap
  obtain ⟨j, hf, hj⟩ := run_findKey_int (P := P) hkt en k hen w
  have hc := run_checkKey_int (P := P) hkt
  have hn' := mput_nodup es k v hn
  cases hm : mget es k with
  | none =>
    refine ⟨{ w with heap := w.heap.setIfInBounds b (.map (en.push { key := .int .i64 k, val := v, born := clock }) (clock + 1)) }, ?_, sat_MapI.2 ⟨hn', _, _, ?_, hst.push _ _, setObj_put hs rfl⟩⟩
    · simp [Instr.mapUpdate, run_underlying hu, getObj, setObj, Sem.run, hb, hc, hf, hm]
    · simp [mput, hm, hen]
  | some u =>
    have hjj := hj (by simp [hm])
    obtain ⟨p, hp, hpk⟩ : ∃ p, es[j]? = some p ∧ p.1 = k := by simpa using hjj.2
    have hkey : (en[j]'hjj.1).key = .int .i64 k := by
      have := congrArg (fun q => (q[j]?).map (·.1)) hen
      simp [List.getElem?_map, hp, hpk, hjj.1] at this
      exact this
    refine ⟨{ w with heap := w.heap.setIfInBounds b (.map (en.modify j fun e => { e with key := .int .i64 k, val := v }) clock) }, ?_, sat_MapI.2 ⟨hn', _, _, ?_, hst.modify j (fun e => { e with key := .int .i64 k, val := v }) (fun _ => rfl), setObj_put hs rfl⟩⟩
    · simp [Instr.mapUpdate, run_underlying hu, getObj, setObj, Sem.run, hb, hc, hf, hm, hjj.1, hkey, Instr.keyThatStays, Instr.sameBits]
    · exact put_entries hn hen hm hjj.1 hjj.2

theorem eraseIdx_filter : ∀ (es : IM) (j : Nat) (k : Int), (mkeys es).Nodup → (es[j]?).map (·.1) = some k → es.eraseIdx j = mdel es k
  | [], j, k, _, h => by simp at h
  | p :: es, 0, k, hn, h => by
    simp at h
    have hn2 : (p.1 :: mkeys es).Nodup := hn
    rw [List.nodup_cons] at hn2
    simp only [List.eraseIdx_zero, List.tail_cons, mdel, List.filter_cons, h, beq_self_eq_true, Bool.not_true, Bool.false_eq_true, if_false]
    symm
    rw [List.filter_eq_self]
    intro q hq
    have : ¬ q.1 = k := by
      rintro rfl
      exact hn2.1 (by rw [h]; exact List.mem_map.2 ⟨q, hq, rfl⟩)
    simpa using this
  | p :: es, j + 1, k, hn, h => by
    have hn2 : (p.1 :: mkeys es).Nodup := hn
    rw [List.nodup_cons] at hn2
    have h' : (es[j]?).map (·.1) = some k := by simpa using h
    have ih := eraseIdx_filter es j k hn2.2 h'
    have hpk : ¬ p.1 = k := by
      rintro rfl
      obtain ⟨q, hq, hqk⟩ : ∃ q, es[j]? = some q ∧ q.1 = p.1 := by simpa using h'
      exact hn2.1 (List.mem_map.2 ⟨q, List.mem_of_getElem? hq, hqk⟩)
    have hb : (p.1 == k) = false := by simpa using hpk
    rw [List.eraseIdx_cons_succ, ih, mdel, mdel, List.filter_cons, hb]
    simp

theorem map_eraseIdx {α β : Type} (f : α → β) : ∀ (l : List α) (j : Nat), (l.eraseIdx j).map f = (l.map f).eraseIdx j
  | [], _ => by simp
  | x :: l, 0 => by simp
  | x :: l, j + 1 => by simp [map_eraseIdx f l j]

theorem mdel_none (es : IM) (k : Int) (h : mget es k = none) : mdel es k = es := by
  unfold mdel
  rw [List.filter_eq_self]
  intro q hq
  have : ¬ q.1 = k := by
    rintro rfl
    have := (mget_isSome es q.1).2 (List.mem_map.2 ⟨q, hq, rfl⟩)
    rw [h] at this; simp at this
  simpa using this

theorem run_delete_sl {kt' ty : Nat} (K : KeyInt P t e z) (h : SatL w (MapI b es :: l)) (k : Int) :
    ∃ w', (Builtin.delete_ #[t, kt'] ty #[.map (some b), .int .i64 k]).run P w = .ok (.tuple #[]) w' ∧ SatL w' (MapI b (mdel es k) :: l) := by
  obtain ⟨kt, hu, hkt⟩ := K.under
  obtain ⟨hn, en, clock, hen, hst, hs⟩ := sat_MapI.1 h
  have hb := hs.heap
  obtain ⟨j, hf, hj⟩ := run_findKey_int (P := P) hkt en k hen w
  have hc := run_checkKey_int (P := P) hkt
  have hn' := mdel_nodup es k hn
  cases hm : mget es k with
  | none =>
    refine ⟨{ w with heap := w.heap.setIfInBounds b (.map en clock) }, ?_, sat_MapI.2 ⟨hn', en, clock, ?_, hst, setObj_put hs rfl⟩⟩
    · simp [Builtin.delete_, run_underlying hu, getObj, setObj, Sem.run, hb, hc, hf, hm]
    · rw [hen, mdel_none es k hm]
  | some u =>
    have hjj := hj (by simp [hm])
    refine ⟨{ w with heap := w.heap.setIfInBounds b (.map (en.eraseIdxIfInBounds j) clock) }, ?_, sat_MapI.2 ⟨hn', _, clock, ?_, hst.erase _, setObj_put hs rfl⟩⟩
    · simp [Builtin.delete_, run_underlying hu, getObj, setObj, Sem.run, hb, hc, hf, hm]
    · rw [← eraseIdx_filter es j k hn hjj.2]
      rw [Array.toList_eraseIdxIfInBounds, map_eraseIdx, hen, map_eraseIdx]
end

section
variable {P : Program} {w : World} {l : List HP} {b t e : Nat} {z : Value} {es : IM}
variable {ops : Array Oper} {rest : List Oper} {o : Oper} {a : Act} {Q : Exit → Act → World → Prop}
theorem wpList_lookup_sl (hgd : o.guard = none) (m x : Operand) (hop : o.op = Op.lookup t m x false) (K : KeyInt P t e z) (hm : a.eval m = .map (some b)) (h : SatL w (MapI b es :: l)) {k : Int} (hx : a.eval x = .int .i64 k)
    (H : wpList P ops Q rest (a.put o.dst ((mget es k).getD z)) w) : wpList P ops Q (o :: rest) a w :=
  wpList_plain hgd fun K' hK' => by
    have hrun := run_lookup_sl K h k
    unfold Oper.wp
    simp [execOp, hop, hm, hx, hrun, Result.andThen]
    exact hK' _ _ H
theorem wpList_lookup_ok_sl (hgd : o.guard = none) (m x : Operand) (hop : o.op = Op.lookup t m x true) (K : KeyInt P t e z) (hm : a.eval m = .map (some b)) (h : SatL w (MapI b es :: l)) {k : Int} (hx : a.eval x = .int .i64 k)
    (H : wpList P ops Q rest (a.put o.dst (.tuple #[(mget es k).getD z, .bool (mget es k).isSome])) w) : wpList P ops Q (o :: rest) a w :=
  wpList_plain hgd fun K' hK' => by
    have hrun := run_lookup_ok_sl K h k
    unfold Oper.wp
    simp [execOp, hop, hm, hx, hrun, Result.andThen]
    exact hK' _ _ H
theorem wpList_mapUpdate_sl (hgd : o.guard = none) (m x y : Operand) (hop : o.op = Op.mapUpdate t m x y) (K : KeyInt P t e z) (hm : a.eval m = .map (some b)) (h : SatL w (MapI b es :: l)) {k : Int} (hx : a.eval x = .int .i64 k) {v : Value} (hv : a.eval y = v)
    (H : ∀ w', SatL w' (MapI b (mput es k v) :: l) → wpList P ops Q rest (a.put o.dst undef) w') : wpList P ops Q (o :: rest) a w :=
  wpList_plain hgd fun K' hK' => by
    obtain ⟨w', hrun, h2⟩ := run_mapUpdate_sl K h k v
    unfold Oper.wp
    simp [execOp, hop, hm, hx, hv, hrun, Result.andThen]
    exact hK' _ _ (H w' h2)
/-- an update of a map, as one step of a region that draws -/
theorem step_mapUpdate_sl {X : Prop} {K : Act → World → Prop} (hgd : o.guard = none) (m x y : Operand) (hop : o.op = Op.mapUpdate t m x y) (K' : KeyInt P t e z) (hm : a.eval m = .map (some b)) (h : SatL w (MapI b es :: l)) {k : Int} (hx : a.eval x = .int .i64 k) {v : Value} (hv : a.eval y = v)
    (H : ∀ w', SatL w' (MapI b (mput es k v) :: l) → K (a.put o.dst undef) w') :
    if Region.wanted o (yielded ops a.tmps) = true then Oper.wp P o a w K Q else X := by
  have hw : Region.wanted o (yielded ops a.tmps) = true := by simp [Region.wanted, hgd]
  rw [if_pos hw]
  obtain ⟨w', hrun, h2⟩ := run_mapUpdate_sl K' h k v
  unfold Oper.wp
  simp [execOp, hop, hm, hx, hv, hrun, Result.andThen]
  exact H w' h2
theorem wpList_delete_sl {kt' : Nat} (hgd : o.guard = none) (m x : Operand) (hop : o.op = .call { callee := .builtin .delete, args := #[m, x], argTypes := #[t, kt'] }) (K : KeyInt P t e z) (hm : a.eval m = .map (some b)) (h : SatL w (MapI b es :: l)) {k : Int} (hx : a.eval x = .int .i64 k)
    (H : ∀ w', SatL w' (MapI b (mdel es k) :: l) → wpList P ops Q rest (a.put o.dst (.tuple #[])) w') : wpList P ops Q (o :: rest) a w :=
  wpList_plain hgd fun K' hK' => by
    obtain ⟨w', hrun, h2⟩ := run_delete_sl (kt' := kt') (ty := o.type) K h k
    unfold Oper.wp execOp
    simp only [hop, resolve, invoke, builtin, Sem.run_bind, Sem.run_pure, Result.andThen_ok, List.map_toArray, List.map_cons, List.map_nil, hm, hx, hrun]
    exact hK' _ _ (H w' h2)
end

end Go.Proofs.Ytklnlomleiebaaa
