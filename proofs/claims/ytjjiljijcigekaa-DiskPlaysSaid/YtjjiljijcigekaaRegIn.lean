/- A region that draws its order, in the round of a range over a function: as anywhere, where nothing is deferred. No condition. -/
import Derived.Test.YtjjiljijcigekaaRegE
import Derived.RangeFuncCalls
namespace Go.Proofs.Ytjjiljijcigekaa
set_option linter.unusedVariables false
set_option linter.unusedSimpArgs false

section
variable {P : Program} {Q : Exit → Act → World → Prop} {k n : Nat}
def noDeferB (ops : Array Oper) : Bool := ops.all fun o => match o.op with | .defer _ => false | _ => true
theorem noDeferB_spec {ops : Array Oper} (h : noDeferB ops = true) {i : Nat} {o : Oper} (ho : ops[i]? = some o) : ∀ c, o.op ≠ .defer c := by
  intro c hc
  have := Array.all_eq_true_iff_forall_mem.1 h o (Array.mem_of_getElem? ho)
  simp [hc] at this
theorem rowsIn_round {row : String} {args : Array Value} {w : World} {R : Value → World → Prop} (h : Rows P row args w R) : RowsIn (Fence.wide.inRound k) n P row args w R := by
  intro c cs _
  obtain ⟨v, w', r, s⟩ := h c cs
  exact ⟨v, w', r, stepsIn_wide.2 s⟩
theorem oper_round {o : Oper} {a : Act} {w : World} {K : Act → World → Prop} (hd : ∀ c, o.op ≠ .defer c) (h : o.wp P a w K Q) : o.wpIn (Fence.wide.inRound k) n P a w K Q := by
  refine ⟨fun f _ => trivial, ?_⟩
  rw [Oper.semAt_eq _ _ _ hd]
  unfold Oper.wp at h
  generalize (execOp a.eval o).run P w = r at *
  cases r with
  | ok x w' =>
    cases x with
    | enter f args => exact ⟨fun hh => (by cases hh), CallsIn.inRound k (callsIn_wide.2 h)⟩
    | row row args => exact ⟨fun hh => (by cases hh), rowsIn_round h⟩
    | value v => exact h
    | skip => exact h
    | defer d => exact h
    | round l f tmps assign body => exact h.elim
    | _ => exact h
  | halt x w' => cases x <;> exact h
theorem ops_round {ops : Array Oper} (hQ : ¬ LetsOut Q) (hd : noDeferB ops = true) : ∀ (l : List Nat) (a : Act) (w : World), wpOps P ops Q l a w → wpOpsIn (Fence.wide.inRound k) n P ops Q l a w
  | [], a, w, h => h
  | i :: l, a, w, h => by
    rw [wpOps_cons] at h
    unfold wpOp at h
    unfold wpOpsIn
    cases ho : ops[i]? with
    | none => rw [ho] at h; exact ops_round hQ hd l a w h
    | some o =>
      rw [ho] at h
      simp only at h ⊢
      split
      · rename_i hw
        rw [if_pos hw] at h
        rcases h with h | ⟨_, h⟩
        · exact oper_round (noDeferB_spec hd ho) (Oper.wp_mono (fun a' w' q => ops_round hQ hd l a' w' q) h)
        · exact absurd h hQ
      · rename_i hw
        rw [if_neg hw] at h
        exact ⟨fun _ _ => trivial, ops_round hQ hd l _ w h⟩
/-- the beginning, in a round -/
theorem GoE.startIn {l : List Oper} {id : Nat} {a : Act} {w : World} (S : World → Prop) (m : Nat) {z : Nat} (hn : l.length = z) (hm : P.follows .mixedOrders = true) (hQ : ¬ LetsOut Q) (hd : noDeferB l.toArray = true)
    (h : GoE P .any l Q S m z (Array.replicate z false) a w.drew) : (Code.region id l.toArray true).wpIn (Fence.wide.inRound k) n P Q a w := by
  subst hn
  refine wpIn_region_draw fun t => ?_
  simp only [Region.schedule, hm, Bool.true_or, if_true]
  refine ops_round hQ hd _ _ _ (wpAny_sound _ t _ a _ (AnyE.any (S := S) (m := m) _ _ _ _ ?_))
  have : l.toArray.size = l.length := List.size_toArray ..
  rw [this]
  refine h fun k hk => ?_
  simp [Array.getElem?_replicate] at hk
  split at hk <;> simp at hk
end
end Go.Proofs.Ytjjiljijcigekaa
