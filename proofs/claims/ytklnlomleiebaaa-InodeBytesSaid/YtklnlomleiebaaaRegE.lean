/- A region that draws its order, and whose last operation waits for all others: what loads read may be taken ahead even where the last one writes it. No condition. -/
import Derived.Deep.RegionHeld
namespace Go.Proofs.Ytklnlomleiebaaa
set_option linter.unusedVariables false
set_option linter.unusedSimpArgs false

section
variable {P : Program} {ops : Array Oper} {Q : Exit → Act → World → Prop} {md : Region.Mode} {S : World → Prop} {m : Nat}

/-- what is listed is listed with all that it waits for -/
def Shutl (md : Region.Mode) (ops : Array Oper) (li : Array Bool) : Prop := ∀ k, li.getD k false = true → ∀ o, ops[k]? = some o → ∀ e ∈ o.after, Region.binds md e = true → li.getD e.on false = true
/-- each operation ahead of number m is waited for by one behind it -/
def coverB (md : Region.Mode) (ops : Array Oper) (m : Nat) : Bool := (List.range m).all fun k => (List.range (m + 1)).any fun j => decide (k < j) && match ops[j]? with | some o => o.after.any (fun e => Region.binds md e && e.on == k) | none => false
theorem coverB_spec (h : coverB md ops m = true) {k : Nat} (hk : k < m) : ∃ j o e, k < j ∧ j ≤ m ∧ ops[j]? = some o ∧ e ∈ o.after ∧ Region.binds md e = true ∧ e.on = k := by
  unfold coverB at h
  have h1 := List.all_eq_true.1 h k (List.mem_range.2 hk)
  obtain ⟨j, hj, h2⟩ := List.any_eq_true.1 h1
  rw [Bool.and_eq_true] at h2
  obtain ⟨h3, h4⟩ := h2
  cases ho : ops[j]? with
  | none => rw [ho] at h4; cases h4
  | some o =>
    rw [ho] at h4
    simp only at h4
    obtain ⟨i, hi, h5⟩ := Array.any_eq_true.1 h4
    rw [Bool.and_eq_true, beq_iff_eq] at h5
    exact ⟨j, o, _, of_decide_eq_true h3, by have := List.mem_range.1 hj; omega, ho, Array.getElem_mem hi, h5.1, h5.2⟩
theorem Shutl.set {li : Array Bool} {j : Nat} (h : Shutl md ops li) (hj : j ∈ Region.ready md ops li) : Shutl md ops (li.setIfInBounds j true) := by
  intro k hk o ho e he hb
  by_cases hkj : j = k
  · subst hkj
    obtain ⟨_, o', ho', hall⟩ := mem_ready.1 hj
    rw [ho] at ho'
    cases ho'
    exact getD_set_true (hall e he hb)
  · rw [getD_set_ne false hkj] at hk
    exact getD_set_true (h k hk o ho e he hb)
/-- number m comes last -/
theorem cover_last {li : Array Bool} (hc : coverB md ops m = true) (h : Shutl md ops li) (hm : m ∈ Region.ready md ops li) : ∀ d k, k + d + 1 = m → li.getD k false = true := by
  obtain ⟨_, om, hom, hall⟩ := mem_ready.1 hm
  intro d
  induction d using Nat.strongRecOn with
  | ind d ih =>
    intro k hk
    obtain ⟨j, o, e, h1, h2, h3, h4, h5, rfl⟩ := coverB_spec hc (k := k) (by omega)
    by_cases hjm : j = m
    · subst hjm
      rw [hom] at h3
      cases h3
      exact hall e h4 h5
    · exact h j (ih (m - 1 - j) (by omega) j (by omega)) o h3 e h4 h5

/-- whatever order comes: S holds behind each operation but number m -/
def AnyE (P : Program) (md : Region.Mode) (ops : Array Oper) (Q : Exit → Act → World → Prop) (S : World → Prop) (m : Nat) : Nat → Array Bool → Act → World → Prop
  | 0, li, a, w => Region.ready md ops li = [] ∧ Q .normal a w
  | n + 1, li, a, w => (Region.ready md ops li = [] → Q .normal a w) ∧ ∀ i ∈ Region.ready md ops li, wpOp P ops Q i (fun a' w' => (i ≠ m → S w') ∧ AnyE P md ops Q S m n (li.setIfInBounds i true) a' w') a w
theorem AnyE.any : ∀ (n : Nat) (li : Array Bool) (a : Act) (w : World), AnyE P md ops Q S m n li a w → wpAny P md ops Q n li a w
  | 0, _, _, _, h => h
  | n + 1, _, _, _, h => ⟨h.1, fun i hi => wpOp_mono (fun a' w' k => AnyE.any n _ a' w' k.2) (h.2 i hi)⟩
theorem AnyE.first {i : Nat} {o : Oper} {v : Value} (hcov : coverB md ops m = true) (him : i < m) (hi : ops[i]? = some o) (hsel : Region.noSelect ops = true)
    (hQ : ∀ c a w, Q (.panic c) (a.put o.dst v) w → Q (.panic c) a w) : ∀ (n : Nat) (li : Array Bool) (a : Act) (w : World),
    Shutl md ops li → (∀ j oj, ops[j]? = some oj → j ≠ i → li.getD j true = false → (∀ e ∈ oj.after, Region.binds md e = true → e.on ≠ i) → o.apart ops oj = true) →
    i ∈ Region.ready md ops li → YieldsIf P ops S o v a → S w → AnyE P md ops Q S m n (li.setIfInBounds i true) (a.put o.dst v) w → AnyE P md ops Q S m (n + 1) li a w := by
  intro n
  induction n with
  | zero =>
    intro li a w hc hf hr hy hS H
    refine ⟨fun e => absurd hr (by rw [e]; exact List.not_mem_nil), fun j hj => ?_⟩
    by_cases e : j = i
    · subst e; exact hy.wpOp hi hS ⟨fun _ => hS, H⟩
    · have := ready_mono hj e
      rw [H.1] at this
      exact absurd this List.not_mem_nil
  | succ n ih =>
    intro li a w hc hf hr hy hS H
    refine ⟨fun e => absurd hr (by rw [e]; exact List.not_mem_nil), fun j hj => ?_⟩
    by_cases e : j = i
    · subst e; exact hy.wpOp hi hS ⟨fun _ => hS, H⟩
    · have k1 := H.2 j (ready_mono hj e)
      obtain ⟨u1, oj, u2, u3⟩ := mem_ready.1 hj
      have v0 : li.getD i false = false := by
        have v2 := (mem_ready.1 hr).1
        rcases Nat.lt_or_ge i li.size with q | q
        · simp [q] at v2 ⊢; exact v2
        · simp [Array.getElem?_eq_none q]
      have hjm : j ≠ m := by
        intro q
        subst q
        have := cover_last hcov hc hj (j - 1 - i) i (by omega)
        rw [v0] at this; cases this
      have u4 : ∀ e ∈ oj.after, Region.binds md e = true → e.on ≠ i := fun e he hb q => by
        have v1 := u3 e he hb
        rw [q, v0] at v1
        cases v1
      have k2 := wpOp_putIf u2 (hf j oj u2 e u1 u4) (fun cs b => Region.noSelect_spec hsel i o cs b hi) (fun cs b => Region.noSelect_spec hsel j oj cs b u2) hQ hy k1
      refine wpOp_mono (fun a' w' k3 => ?_) k2
      have hS' := k3.2.1 hjm
      refine ⟨fun _ => hS', ih _ a' w' (hc.set hj) (fun k ok q1 q2 q3 q4 => hf k ok q1 q2 ?_ q4) (ready_mono hr (Ne.symm e)) k3.1 hS' ?_⟩
      · by_cases q : j = k
        · subst q; exact u1
        · rwa [getD_set_ne true q] at q3
      · rw [Array.setIfInBounds_comm _ _ e]
        exact k3.2.2

/-! the moves; what is listed hangs together: carried along -/
def GoE (P : Program) (md : Region.Mode) (l : List Oper) (Q : Exit → Act → World → Prop) (S : World → Prop) (m n : Nat) (li : Array Bool) (a : Act) (w : World) : Prop := Shutl md l.toArray li → AnyE P md l.toArray Q S m n li a w
variable {l : List Oper}
theorem drop_get {i : Nat} {o : Oper} {r : List Oper} (hi : l.drop i = o :: r) : l.toArray[i]? = some o := by
  rw [List.getElem?_toArray]
  have := congrArg (fun x => x[0]?) hi
  simpa using this
theorem GoE.take {i n : Nat} {o : Oper} {r : List Oper} {v : Value} {li : Array Bool} {a : Act} {w : World} (hi : l.drop i = o :: r) (him : i < m) (hcov : coverB md l.toArray m = true) (hs : Region.noSelect l.toArray = true) (hf : Region.free md l.toArray li i = true)
    (hr : (Region.ready md l.toArray li).contains i = true) (hQ : ∀ c a w, Q (.panic c) (a.put o.dst v) w → Q (.panic c) a w) (hw : Region.wanted o (yielded l.toArray a.tmps) = true) (hy : ∀ w, S w → (execOp a.eval o).run P w = .ok (.value v) w) (hS : S w)
    (h : GoE P md l Q S m n (li.setIfInBounds i true) (a.put o.dst v) w) : GoE P md l Q S m (n + 1) li a w := fun hc => by
  have hr' : i ∈ Region.ready md l.toArray li := by simpa using hr
  exact AnyE.first hcov him (drop_get hi) hs hQ n li a w hc (fun j oj => Region.free_spec (drop_get hi) hf j oj) hr' (.inl ⟨hw, hy⟩) hS (h (hc.set hr'))
/-- one alone may come up -/
theorem GoE.one {i n : Nat} {o : Oper} {r : List Oper} {li : Array Bool} {a : Act} {w : World} (hi : l.drop i = o :: r) (hr : Region.ready md l.toArray li = [i])
    (h : ∀ K' : Act → World → Prop, Shut (∀ a w, (i ≠ m → S w) → GoE P md l Q S m n (li.setIfInBounds i true) a w → K' a w) → if Region.wanted o (yielded l.toArray a.tmps) = true then Oper.wp P o a w K' Q else K' (a.put o.dst undef) w) : GoE P md l Q S m (n + 1) li a w := fun hc => by
  have hr' : i ∈ Region.ready md l.toArray li := by rw [hr]; simp
  refine ⟨fun e => absurd hr (by rw [e]; simp), fun j hj => ?_⟩
  rw [hr] at hj
  obtain rfl : j = i := by simpa using hj
  exact wpOp_step (drop_get hi) (fun K' hK => h K' (fun a w hS hG => hK a w ⟨hS, hG (hc.set hr')⟩))
/-- two may come up -/
theorem GoE.two {i j n : Nat} {o q : Oper} {r t : List Oper} {li : Array Bool} {a : Act} {w : World} (hi : l.drop i = o :: r) (hj : l.drop j = q :: t) (hr : Region.ready md l.toArray li = [i, j])
    (h : ∀ K' : Act → World → Prop, Shut (∀ a w, (i ≠ m → S w) → GoE P md l Q S m n (li.setIfInBounds i true) a w → K' a w) → if Region.wanted o (yielded l.toArray a.tmps) = true then Oper.wp P o a w K' Q else K' (a.put o.dst undef) w)
    (h2 : ∀ K' : Act → World → Prop, Shut (∀ a w, (j ≠ m → S w) → GoE P md l Q S m n (li.setIfInBounds j true) a w → K' a w) → if Region.wanted q (yielded l.toArray a.tmps) = true then Oper.wp P q a w K' Q else K' (a.put q.dst undef) w) : GoE P md l Q S m (n + 1) li a w := fun hc => by
  have hi' : i ∈ Region.ready md l.toArray li := by rw [hr]; simp
  have hj' : j ∈ Region.ready md l.toArray li := by rw [hr]; simp
  refine ⟨fun e => absurd hr (by rw [e]; simp), fun k hk => ?_⟩
  rw [hr] at hk
  rcases (by simpa using hk : k = i ∨ k = j) with rfl | rfl
  · exact wpOp_step (drop_get hi) (fun K' hK => h K' (fun a w hS hG => hK a w ⟨hS, hG (hc.set hi')⟩))
  · exact wpOp_step (drop_get hj) (fun K' hK => h2 K' (fun a w hS hG => hK a w ⟨hS, hG (hc.set hj')⟩))
theorem GoE.done {n : Nat} {li : Array Bool} {a : Act} {w : World} (hr : Region.ready md l.toArray li = []) (h : Q .normal a w) : GoE P md l Q S m n li a w := fun _ => by
  cases n with
  | zero => exact ⟨hr, h⟩
  | succ n => exact ⟨fun _ => h, by rw [hr]; simp⟩
theorem GoE.start {id : Nat} {a : Act} {w : World} (S : World → Prop) (m n : Nat) (hn : l.length = n) (hm : P.follows .mixedOrders = true) (h : GoE P .any l Q S m n (Array.replicate n false) a w.drew) : (Code.region id l.toArray true).wp P Q a w := by
  subst hn
  refine wp_region_any hm (AnyE.any (S := S) (m := m) _ _ _ _ ?_)
  have : l.toArray.size = l.length := List.size_toArray ..
  rw [this]
  refine h fun k hk => ?_
  simp [Array.getElem?_replicate] at hk
  split at hk <;> simp at hk
theorem AnyE.mono {S' : World → Prop} (hS : ∀ w, S' w → S w) : ∀ (n : Nat) (li : Array Bool) (a : Act) (w : World), AnyE P md ops Q S' m n li a w → AnyE P md ops Q S m n li a w
  | 0, _, _, _, h => h
  | n + 1, _, _, _, h => ⟨h.1, fun i hi => wpOp_mono (fun a' w' k => ⟨fun e => hS _ (k.1 e), AnyE.mono hS n _ a' w' k.2⟩) (h.2 i hi)⟩
/-- from here on more is held -/
theorem GoE.more {n : Nat} {li : Array Bool} {a : Act} {w : World} (S' : World → Prop) (hS : ∀ w, S' w → S w) (h : GoE P md l Q S' m n li a w) : GoE P md l Q S m n li a w := fun hc => AnyE.mono hS _ _ _ _ (h hc)
/-- an operation that is guarded off -/
theorem GoE.skip {i n : Nat} {o : Oper} {r : List Oper} {li : Array Bool} {a : Act} {w : World} (hi : l.drop i = o :: r) (him : i < m) (hcov : coverB md l.toArray m = true) (hs : Region.noSelect l.toArray = true) (hf : Region.free md l.toArray li i = true)
    (hr : (Region.ready md l.toArray li).contains i = true) (hQ : ∀ c a w, Q (.panic c) (a.put o.dst undef) w → Q (.panic c) a w) (hw : Region.wanted o (yielded l.toArray a.tmps) = false) (hS : S w)
    (h : GoE P md l Q S m n (li.setIfInBounds i true) (a.put o.dst undef) w) : GoE P md l Q S m (n + 1) li a w := fun hc => by
  have hr' : i ∈ Region.ready md l.toArray li := by simpa using hr
  exact AnyE.first hcov him (drop_get hi) hs hQ n li a w hc (fun j oj => Region.free_spec (drop_get hi) hf j oj) hr' (.inr ⟨hw, rfl⟩) hS (h (hc.set hr'))
end
end Go.Proofs.Ytklnlomleiebaaa
