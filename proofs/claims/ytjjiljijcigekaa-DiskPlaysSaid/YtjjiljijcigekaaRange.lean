/- A range over a map with int keys, said of what is owned: the map and its iterator beside each other. No condition. -/
import Derived.Test.YtjjiljijcigekaaMap
import Derived.Test.YtjjiljijcigekaaAuto
import Derived.Maps.RangeRun
namespace Go.Proofs.Ytjjiljijcigekaa
set_option linter.unusedVariables false
set_option linter.unusedSimpArgs false
open Go.RowKit
open Go.ChangeMaps (setBlock)

/-- the map in block b holds es; an iterator over it in block r has left to hand out -/
def MapRg (b r : Nat) (es left : IM) : HP := ex fun en : Array MapEntry => ex fun clock : Nat => ex fun since : Nat => ex fun seen : Array Nat => ex fun c0 : Nat =>
  sep [pur ((mkeys es).Nodup ∧ en.toList.map (fun x => (x.key, x.val)) = es.map (fun p => (Value.int .i64 p.1, p.2)) ∧ Stamps en clock ∧ (∀ x ∈ en.toList, x.born < since) ∧ since ≤ c0 ∧ since ≤ clock ∧ (leftOf en seen).toList.map (fun x => (x.key, x.val)) = left.map (fun p => (Value.int .i64 p.1, p.2))),
    pt b (.map en clock), pt r (.mapIter (some b) since seen c0)]
/-- it has just handed out p -/
def MapRgAt (b r : Nat) (es left : IM) (p : Int × Value) : HP := ex fun en : Array MapEntry => ex fun clock : Nat => ex fun since : Nat => ex fun seen : Array Nat => ex fun e : MapEntry =>
  sep [pur ((mkeys es).Nodup ∧ en.toList.map (fun x => (x.key, x.val)) = es.map (fun p => (Value.int .i64 p.1, p.2)) ∧ Stamps en clock ∧ (∀ x ∈ en.toList, x.born < since) ∧ since ≤ clock ∧ (leftOf en (seen.push e.born)).toList.map (fun x => (x.key, x.val)) = left.map (fun p => (Value.int .i64 p.1, p.2)) ∧ e ∈ en.toList ∧ e.key = .int .i64 p.1 ∧ e.val = p.2),
    pt b (.map en clock), pt r (.mapIter (some b) since (seen.push e.born) clock)]

section
variable {P : Program} {w : World} {l : List HP} {b r t kt e0 : Nat} {es left : IM} {p : Int × Value}
theorem sat_MapRg : SatL w (MapRg b r es left :: l) ↔ ∃ (en : Array MapEntry) (clock since : Nat) (seen : Array Nat) (c0 : Nat), ((mkeys es).Nodup ∧ en.toList.map (fun x => (x.key, x.val)) = es.map (fun p => (Value.int .i64 p.1, p.2)) ∧ Stamps en clock ∧ (∀ x ∈ en.toList, x.born < since) ∧ since ≤ c0 ∧ since ≤ clock ∧ (leftOf en seen).toList.map (fun x => (x.key, x.val)) = left.map (fun p => (Value.int .i64 p.1, p.2))) ∧ SatL w (pt b (.map en clock) :: pt r (.mapIter (some b) since seen c0) :: l) := by
  simp only [MapRg, sat_ex, sat_sep, List.cons_append, List.nil_append, sat_pur]
theorem sat_MapRgAt : SatL w (MapRgAt b r es left p :: l) ↔ ∃ (en : Array MapEntry) (clock since : Nat) (seen : Array Nat) (e : MapEntry), ((mkeys es).Nodup ∧ en.toList.map (fun x => (x.key, x.val)) = es.map (fun p => (Value.int .i64 p.1, p.2)) ∧ Stamps en clock ∧ (∀ x ∈ en.toList, x.born < since) ∧ since ≤ clock ∧ (leftOf en (seen.push e.born)).toList.map (fun x => (x.key, x.val)) = left.map (fun p => (Value.int .i64 p.1, p.2)) ∧ e ∈ en.toList ∧ e.key = .int .i64 p.1 ∧ e.val = p.2) ∧ SatL w (pt b (.map en clock) :: pt r (.mapIter (some b) since (seen.push e.born) clock) :: l) := by
  simp only [MapRgAt, sat_ex, sat_sep, List.cons_append, List.nil_append, sat_pur]

theorem MapRgAt.rg (h : SatL w (MapRgAt b r es left p :: l)) : SatL w (MapRg b r es left :: l) := by
  obtain ⟨en, clock, since, seen, e, ⟨h1, h2, h3, h4, h5, h6, _⟩, hs⟩ := sat_MapRgAt.1 h
  exact sat_MapRg.2 ⟨en, clock, since, _, _, ⟨h1, h2, h3, h4, h5, h5, h6⟩, hs⟩
theorem MapRg.map (h : SatL w (MapRg b r es left :: l)) : SatL w (MapI b es :: l) := by
  obtain ⟨en, clock, since, seen, c0, ⟨h1, h2, h3, h4, h5, h5b, h6⟩, hs⟩ := sat_MapRg.1 h
  exact sat_MapI.2 ⟨h1, en, clock, h2, h3, (SatL.swap hs).tail⟩

theorem run_range_sl (ht : P.underlying t = some (.map kt e0)) (h : SatL w (MapI b es :: l)) : ∃ w', (Instr.range t (.map (some b))).run P w = .ok (.pointer (some ⟨w.heap.size, 0, none⟩)) w' ∧ SatL w' (MapRg b w.heap.size es es :: l) := by
  obtain ⟨h1, en, clock, h2, h3, hs⟩ := sat_MapI.1 h
  refine ⟨_, run_range_map w t kt e0 b en clock ht hs.heap, sat_MapRg.2 ⟨en, clock, clock, #[], clock, ⟨h1, h2, h3, h3.2, Nat.le_refl _, Nat.le_refl _, ?_⟩, (hs.alloc _).swap⟩⟩
  have : leftOf en #[] = en := by unfold leftOf; simp
  rw [this]; exact h2

theorem SatL.setBlk2 {o o' : Obj} (h : SatL w (pt r o :: l)) : SatL (setBlock w r o') (pt r o' :: l) := by
  refine SatL.put h rfl ?_ ?_
  · have := h.lt
    show (w.heap.setIfInBounds r o')[r]? = some o'
    rw [Array.getElem?_setIfInBounds_self_of_lt this]
  · intro c hc
    show (w.heap.setIfInBounds r o')[c]? = w.heap[c]?
    rw [Array.getElem?_setIfInBounds_ne (fun e => hc e.symm)]

/-- the next step: it is at its end, or hands out one of those that are left -/
theorem run_next_sl (ty : TypeId) (h : SatL w (MapRg b r es left :: l)) :
    (left = [] ∧ (Instr.next (.pointer (some ⟨r, 0, none⟩)) false ty).run P w = .ok (.tuple #[.bool false]) w) ∨
    ∃ (L1 L2 : IM) (p : Int × Value) (w' : World), left = L1 ++ p :: L2 ∧ (Instr.next (.pointer (some ⟨r, 0, none⟩)) false ty).run P w = .ok (.tuple #[.bool true, .int .i64 p.1, p.2]) w' ∧ SatL w' (MapRgAt b r es (L1 ++ L2) p :: l) := by
  obtain ⟨en, clock, since, seen, c0, ⟨h1, h2, h3, h4, h5, h5b, h6⟩, hs⟩ := sat_MapRg.1 h
  have hb := hs.heap
  have hr := (SatL.swap hs).heap
  rcases run_next_at (P := P) w ty r b since c0 seen en clock hr hb h4 h5 with ⟨hz, hrun⟩ | ⟨e, he, w1, hw1, hrun⟩
  · left
    refine ⟨?_, hrun⟩
    have : (leftOf en seen).toList = [] := List.eq_nil_of_length_eq_zero (by simpa using hz)
    rw [this] at h6
    cases left with
    | nil => rfl
    | cons a l => simp at h6
  · right
    obtain ⟨A, B, hAB⟩ := List.append_of_mem he
    rw [hAB] at h6
    rw [List.map_append, List.map_cons] at h6
    obtain ⟨L1, L3, hL, hA, hB⟩ := List.append_eq_map_iff.1 h6
    cases L3 with
    | nil => simp at hB
    | cons q L2 =>
      rw [List.map_cons] at hB
      injection hB with hq hB
      injection hq with hk hv
      have hm := mem_left he
      have hnodup := h3.1
      refine ⟨L1, L2, q, _, hL, by rw [← hk, ← hv] at hrun; exact hrun, sat_MapRgAt.2 ⟨en, clock, since, seen, e, ⟨h1, h2, h3, h4, ?_, ?_, hm.1, hk.symm, hv.symm⟩, ?_⟩⟩
      · exact h5b
      · have hsub : (A ++ e :: B).Sublist en.toList := by
          rw [← hAB]
          show (Array.filter _ en).toList.Sublist _
          rw [Array.toList_filter]
          exact List.filter_sublist
        have hnd := (hsub.map (·.born)).nodup hnodup
        rw [List.map_append, List.map_cons, List.nodup_append] at hnd
        obtain ⟨n1, n2, n3⟩ := hnd
        rw [List.nodup_cons] at n2
        have e1 : (leftOf en (seen.push e.born)).toList = (leftOf en seen).toList.filter (fun x => !(x.born == e.born)) := by
          unfold leftOf
          rw [Array.toList_filter, Array.toList_filter, List.filter_filter]
          refine List.filter_congr (fun x _ => ?_)
          rw [contains_push, Bool.not_or, Bool.and_comm]
        rw [e1, hAB, List.filter_append, List.filter_cons_of_neg (by simp)]
        rw [List.filter_eq_self.2 (fun x hx => ?_), List.filter_eq_self.2 (fun x hx => ?_), List.map_append, List.map_append, hA, hB]
        · simp only [Bool.not_eq_true', beq_eq_false_iff_ne]
          intro q
          exact n2.1 (by rw [← q]; exact List.mem_map_of_mem hx)
        · simp only [Bool.not_eq_true', beq_eq_false_iff_ne]
          intro q
          exact n3 _ (List.mem_map_of_mem hx) _ (List.mem_cons_self) q
      · have hs1 : SatL w1 (pt b (.map en clock) :: pt r (.mapIter (some b) since seen c0) :: l) := by
          rcases hw1 with rfl | rfl
          · exact hs
          · exact sat_drew.2 hs
        exact (SatL.setBlk2 (SatL.swap hs1)).swap
theorem run_entry_sl (h : SatL w (MapRgAt b r es left p :: l)) : (Instr.entry (.pointer (some ⟨r, 0, none⟩))).run P w = .ok (.tuple #[.int .i64 p.1, p.2]) w := by
  obtain ⟨en, clock, since, seen, e, ⟨h1, h2, h3, h4, h5, h6, he, hk, hv⟩, hs⟩ := sat_MapRgAt.1 h
  have := run_entry_at (P := P) w r b since seen en clock e (SatL.swap hs).heap hs.heap he h3.1
  rw [hk, hv] at this
  exact this
end
section
variable {P : Program} {w : World} {l : List HP} {b r t kt e0 : Nat} {es left : IM} {p : Int × Value}
variable {ops : Array Oper} {rest : List Oper} {o : Oper} {a : Act} {Q : Exit → Act → World → Prop}
theorem wpList_range_sl (hgd : o.guard = none) (m : Operand) (hop : o.op = Op.range t m) (hu : P.underlying t = some (.map kt e0)) (hm : a.eval m = .map (some b)) (h : SatL w (MapI b es :: l))
    (H : ∀ w' r, SatL w' (MapRg b r es es :: l) → wpList P ops Q rest (a.put o.dst (.pointer (some ⟨r, 0, none⟩))) w') : wpList P ops Q (o :: rest) a w :=
  wpList_plain hgd fun K' hK' => by
    obtain ⟨w', hrun, h2⟩ := run_range_sl hu h
    unfold Oper.wp
    simp [execOp, hop, hm, hrun, Result.andThen]
    exact hK' _ _ (H w' _ h2)
theorem wpList_next_sl (hgd : o.guard = none) (m : Operand) (hop : o.op = Op.next m false) (hm : a.eval m = .pointer (some ⟨r, 0, none⟩)) (h : SatL w (MapRg b r es left :: l))
    (H0 : left = [] → wpList P ops Q rest (a.put o.dst (.tuple #[.bool false])) w)
    (H : ∀ w' (L1 L2 : IM) (p : Int × Value), left = L1 ++ p :: L2 → SatL w' (MapRgAt b r es (L1 ++ L2) p :: l) → (Instr.entry (.pointer (some ⟨r, 0, none⟩))).run P w' = .ok (.tuple #[.int .i64 p.1, p.2]) w' → wpList P ops Q rest (a.put o.dst (.tuple #[.bool true, .int .i64 p.1, p.2])) w') : wpList P ops Q (o :: rest) a w :=
  wpList_plain hgd fun K' hK' => by
    rcases run_next_sl (P := P) o.type h with ⟨hl, hrun⟩ | ⟨L1, L2, p, w', hl, hrun, h2⟩
    · unfold Oper.wp
      simp [execOp, hop, hm, hrun, Result.andThen]
      exact hK' _ _ (H0 hl)
    · unfold Oper.wp
      simp [execOp, hop, hm, hrun, Result.andThen]
      exact hK' _ _ (H w' L1 L2 p hl h2 (run_entry_sl h2))
end
end Go.Proofs.Ytjjiljijcigekaa
