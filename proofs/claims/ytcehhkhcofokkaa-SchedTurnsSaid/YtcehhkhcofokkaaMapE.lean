/- A map's entry and what is stored in it (an assignment of several places). No condition. -/
import Derived.Test.YtcehhkhcofokkaaMap
import Derived.WideKeyEntry
namespace Go.Proofs.Ytcehhkhcofokkaa
open Go.RowKit
set_option linter.unusedVariables false

def setBlk (w : World) (b : Nat) (o : Obj) : World := { w with heap := w.heap.setIfInBounds b o }

section
variable {P : Program} {w : World} {l : List HP} {b t e : Nat} {z : Value} {es : IM} {i : TypeInfo}

theorem setBlk_self {o o' : Obj} (h : w.heap[b]? = some o) : (setBlk w b o').heap[b]? = some o' := by
  have := (Array.getElem?_eq_some_iff.1 h).1
  simp [setBlk, this]
theorem setBlk_other {c : Nat} {o : Obj} (h : c ≠ b) : (setBlk w b o).heap[c]? = w.heap[c]? := by
  simp [setBlk, Array.getElem?_setIfInBounds_ne (Ne.symm h)]
theorem setBlk_cell {c : Addr} {o : Obj} (h : c.block ≠ b) : (setBlk w b o).cell? c = w.cell? c := by
  unfold World.cell?
  rw [setBlk_other h]

theorem mod_set {α : Type} {xs : List α} {i : Nat} {x : α} (f : α → α) (hx : xs[i]? = some x) : xs.modify i f = xs.set i (f x) := by
  haveI : Inhabited α := ⟨x⟩
  rw [List.modify_eq_set, hx]; rfl
theorem run_findKey_all {kt : Nat} (hkt : P.underlying kt = some (.int .i64)) (en : Array MapEntry) (k : Int) (h : en.toList.map (fun x => (x.key, x.val)) = es.map (fun p => (Value.int .i64 p.1, p.2))) :
    ∃ j, (∀ w : World, (Instr.findKey kt (.int .i64 k) en.toList).run P w = .ok ((mget es k).map (fun v => (j, v))) w) ∧ ((mget es k).isSome → j < en.size ∧ (es[j]?).map (·.1) = some k) := by
  obtain ⟨j, h1, h2⟩ := findNow_int en.toList es k 0 h
  refine ⟨j, fun w => ?_, by simpa using h2⟩
  simp only [Nat.zero_add] at h1
  simp [Instr.findKey, run_underlying hkt, h1]
theorem mdel_put (es : IM) (k : Int) (v : Value) : mdel (mput es k v) k = mdel es k := by
  unfold mput
  split
  · unfold mdel
    induction es with
    | nil => rfl
    | cons p es ih =>
      rename_i hs
      rw [List.map_cons, List.filter_cons, List.filter_cons]
      by_cases hp : p.1 = k
      · simp only [hp, beq_self_eq_true, if_true, Bool.not_true, Bool.false_eq_true, if_false]
        by_cases h2 : (mget es k).isSome
        · exact ih h2
        · have : ∀ q ∈ es, ¬ q.1 = k := fun q hq e => h2 ((mget_isSome es k).2 (List.mem_map.2 ⟨q, hq, e⟩))
          rw [show es.map (fun p => if p.1 == k then (k, v) else p) = es by
            conv => rhs; rw [← List.map_id es]
            apply List.map_congr_left
            intro q hq
            simp [this q hq]]
      · have hp' : (p.1 == k) = false := by simpa using hp
        simp only [hp', Bool.false_eq_true, if_false, Bool.not_false, if_true]
        rw [ih (by rw [mget_cons, hp'] at hs; simpa using hs)]
  · unfold mdel
    rw [List.filter_append]
    simp
theorem run_zero (h1 : P.info? e = some i) (h2 : i.zero = some z) (w : World) : (zeroValue e).run P w = .ok z w := by
  simp [zeroValue, typeInfo, h1, h2]

theorem mapEntry_sl (K : KeyInt P t e z) (h : SatL w (MapI b es :: l)) (k : Int) : ∃ (en en1 : Array MapEntry) (c c1 : Nat) (v0 : Value) (st : Nat),
    w.heap[b]? = some (.map en c) ∧
    (∀ W : World, W.heap[b]? = some (.map en c) → (Instr.mapEntry t (.map (some b)) (.int .i64 k)).run P W = .ok (.tuple #[v0, .int .i64 st]) (setBlk W b (.map en1 c1))) ∧
    (∀ val : Value, ∃ (en2 : Array MapEntry) (c2 : Nat), (∀ W : World, W.heap[b]? = some (.map en1 c1) → (Instr.entryStore t (.map (some b)) (.int .i64 st) val).run P W = .ok () (setBlk W b (.map en2 c2))) ∧
      (∀ (W : World) (l' : List HP), SatL W (pt b (.map en2 c2) :: l') → SatL W (MapI b (mput es k val) :: l'))) := by
  obtain ⟨kt, hu, hkt⟩ := K.under
  obtain ⟨iz, hz1, hz2⟩ := K.zero
  obtain ⟨hn, en, clock, hen, hst, hs⟩ := sat_MapI.1 h
  have hb := hs.heap
  have hc := run_checkKey_int (P := P) hkt
  obtain ⟨j, hf, hj⟩ := run_findKey_all (P := P) hkt en k hen
  cases hm : mget es k with
  | none =>
    refine ⟨en, en.push ⟨.int .i64 k, z, clock⟩, clock, clock + 1, z, clock, hb, ?_, fun val => ⟨en.push ⟨.int .i64 k, val, clock⟩, clock + 1, ?_, ?_⟩⟩
    · intro W hW
      simp [Instr.mapEntry, run_underlying hu, MapKept.run_getObj_map hW, hc, hf, hm, run_zero hz1 hz2, MapKept.run_setObj_map _ hW, Result.andThen, setBlk, goInt]
    · intro W hW
      have hidx : (en.push ⟨.int .i64 k, z, clock⟩).findIdx? (fun e => ((e.born : Nat) : Int) == ((clock : Nat) : Int)) = some en.size := by
        rw [WideElems.findIdx_arr]
        exact WideElems.findIdx_born (l := (en.push ⟨.int .i64 k, z, clock⟩).toList) (j := en.size) (e0 := ⟨.int .i64 k, z, clock⟩) (hst.push _ _).1 (by simp)
      have hmod : (en.push ⟨.int .i64 k, z, clock⟩).modify en.size (fun e => { e with val := val }) = en.push ⟨.int .i64 k, val, clock⟩ := by
        apply Array.ext'
        rw [Array.toList_modify, Array.toList_push, Array.toList_push, ← Array.length_toList, WideElems.modify_last]
      simp [Instr.entryStore, MapKept.run_getObj_map hW, asInt, asIntOf, hidx, hmod, MapKept.run_setObj_map _ hW, Result.andThen, setBlk]
    · intro W l' hW
      refine sat_MapI.2 ⟨mput_nodup es k val hn, _, _, ?_, hst.push _ _, hW⟩
      simp [mput, hm, hen]
  | some u =>
    have hjj := hj (by simp [hm])
    have hkey : (en[j]'hjj.1).key = .int .i64 k := by
      obtain ⟨p, hp, hpk⟩ : ∃ p, es[j]? = some p ∧ p.1 = k := by simpa using hjj.2
      have := congrArg (fun q => (q[j]?).map (·.1)) hen
      simp [List.getElem?_map, hp, hpk, hjj.1] at this
      exact this
    have hget : en.toList[j]? = some en[j] := by simp [hjj.1]
    have hsame : en.modify j (fun e => { e with key := .int .i64 k }) = en := by
      apply Array.ext'
      rw [Array.toList_modify, mod_set _ hget]
      have : ({ en[j] with key := .int .i64 k } : MapEntry) = en[j] := by rw [← hkey]
      rw [this]
      exact WideElems.set_self _ _ _ hget
    refine ⟨en, en, clock, clock, u, (en[j]'hjj.1).born, hb, ?_, fun val => ⟨en.modify j fun e => { e with key := .int .i64 k, val := val }, clock, ?_, ?_⟩⟩
    · intro W hW
      simp [Instr.mapEntry, run_underlying hu, MapKept.run_getObj_map hW, hc, hf, hm, MapKept.run_setObj_map _ hW, Result.andThen, setBlk, goInt, hjj.1, hkey, Instr.keyThatStays, Instr.sameBits, hsame]
    · intro W hW
      have hidx : en.findIdx? (fun e => ((e.born : Nat) : Int) == (((en[j]'hjj.1).born : Nat) : Int)) = some j := by
        rw [WideElems.findIdx_arr]
        exact WideElems.findIdx_born hst.1 hget
      have hmod : en.modify j (fun e => { e with val := val }) = en.modify j (fun e' => { e' with key := .int .i64 k, val := val }) := by
        apply Array.ext'
        rw [Array.toList_modify, Array.toList_modify, mod_set _ hget, mod_set _ hget, ← hkey]
      simp [Instr.entryStore, MapKept.run_getObj_map hW, asInt, asIntOf, hidx, hmod, MapKept.run_setObj_map _ hW, Result.andThen, setBlk]
    · intro W l' hW
      refine sat_MapI.2 ⟨mput_nodup es k val hn, _, _, ?_, hst.modify j (fun e => { e with key := .int .i64 k, val := val }) (fun _ => rfl), hW⟩
      exact put_entries hn hen hm hjj.1 hjj.2

/-- a map whose entry at k was found (its stamp: st), and is stored into next -/
def MapPend (P : Program) (t b : Nat) (es : IM) (k : Int) (st : Nat) : HP := ex fun en1 : Array MapEntry => ex fun c1 : Nat => sep [pur (∀ val : Value, ∃ (en2 : Array MapEntry) (c2 : Nat), (∀ W : World, W.heap[b]? = some (.map en1 c1) → (Instr.entryStore t (.map (some b)) (.int .i64 st) val).run P W = .ok () (setBlk W b (.map en2 c2))) ∧
      (∀ (W : World) (l' : List HP), SatL W (pt b (.map en2 c2) :: l') → SatL W (MapI b (mput es k val) :: l'))), pt b (.map en1 c1)]

theorem SatL.setBlk {o o' : Obj} (h : SatL w (pt b o :: l)) : SatL (setBlk w b o') (pt b o' :: l) :=
  SatL.put h rfl (setBlk_self h.heap) fun _ hc => setBlk_other hc

theorem run_mapEntry_sl (K : KeyInt P t e z) (h : SatL w (MapI b es :: l)) (k : Int) : ∃ (v0 : Value) (st : Nat) (w' : World),
    (Instr.mapEntry t (.map (some b)) (.int .i64 k)).run P w = .ok (.tuple #[v0, .int .i64 st]) w' ∧ SatL w' (MapPend P t b es k st :: l) := by
  obtain ⟨en, en1, c, c1, v0, st, hb, h1, h2⟩ := mapEntry_sl K h k
  refine ⟨v0, st, _, h1 w hb, ?_⟩
  obtain ⟨_, en', clock, _, _, hs⟩ := sat_MapI.1 h
  have hs2 := SatL.setBlk (o' := .map en1 c1) hs
  unfold MapPend
  rw [sat_ex]; refine ⟨en1, ?_⟩
  rw [sat_ex]; refine ⟨c1, ?_⟩
  rw [sat_sep]
  exact sat_pur.2 ⟨h2, hs2⟩
theorem run_entryStore_sl {k : Int} {st : Nat} (h : SatL w (MapPend P t b es k st :: l)) (val : Value) : ∃ w',
    (Instr.entryStore t (.map (some b)) (.int .i64 st) val).run P w = .ok () w' ∧ SatL w' (MapI b (mput es k val) :: l) := by
  unfold MapPend at h
  obtain ⟨en1, h⟩ := sat_ex.1 h
  obtain ⟨c1, h⟩ := sat_ex.1 h
  rw [sat_sep] at h
  obtain ⟨h1, h2⟩ := sat_pur.1 h
  obtain ⟨en2, c2, h3, h4⟩ := h1 val
  exact ⟨_, h3 w (SatL.heap h2), h4 _ _ (SatL.setBlk h2)⟩

theorem run_entryStore_all {k : Int} {st : Nat} (h : SatL w (MapPend P t b es k st :: l)) : ∃ D : Value → World,
    ∀ val, (Instr.entryStore t (.map (some b)) (.int .i64 st) val).run P w = .ok () (D val) ∧ SatL (D val) (MapI b (mput es k val) :: l) :=
  ⟨fun val => Classical.choose (run_entryStore_sl h val), fun val => Classical.choose_spec (run_entryStore_sl h val)⟩

theorem wpList_mapEntry_sl {ops : Array Oper} {rest : List Oper} {o : Oper} {a : Act} {Q : Exit → Act → World → Prop} (hgd : o.guard = none) (x y : Operand)
    (ho : o.op = .mapEntry t x y) (K : KeyInt P t e z) (hx : a.eval x = .map (some b)) (h : SatL w (MapI b es :: l)) {k : Int} (hy : a.eval y = .int .i64 k)
    (H : ∀ v0 st w', SatL w' (MapPend P t b es k st :: l) → wpList P ops Q rest (a.put o.dst (.tuple #[v0, .int .i64 st])) w') : wpList P ops Q (o :: rest) a w :=
  wpList_plain hgd fun _ hK => by
    obtain ⟨v0, st, w', hr, h2⟩ := run_mapEntry_sl K h k
    unfold Oper.wp
    simp [execOp, ho, hx, hy, hr, Result.andThen]
    exact hK _ _ (H v0 st w' h2)
theorem wpList_entryStore_sl {ops : Array Oper} {rest : List Oper} {o : Oper} {a : Act} {Q : Exit → Act → World → Prop} (hgd : o.guard = none) (x y z' : Operand)
    (ho : o.op = .entryStore t x y z') (hx : a.eval x = .map (some b)) {k : Int} {st : Nat} (h : SatL w (MapPend P t b es k st :: l)) (hy : a.eval y = .int .i64 st) {val : Value} (hz : a.eval z' = val)
    (H : ∀ w', SatL w' (MapI b (mput es k val) :: l) → wpList P ops Q rest (a.put o.dst (.tuple #[])) w') : wpList P ops Q (o :: rest) a w :=
  wpList_plain hgd fun _ hK => by
    obtain ⟨w', hr, h2⟩ := run_entryStore_sl h val
    unfold Oper.wp
    simp [execOp, ho, hx, hy, hz, hr, Result.andThen]
    exact hK _ _ (H w' h2)
end
end Go.Proofs.Ytcehhkhcofokkaa
