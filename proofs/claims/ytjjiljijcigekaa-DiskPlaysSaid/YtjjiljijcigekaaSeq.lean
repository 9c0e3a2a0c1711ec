/- A range over a function, said of what is owned: the statement, and what its iterator must keep. No condition. -/
import Derived.Test.YtjjiljijcigekaaStore
import Derived.RangeFuncKeeps
import Derived.RangeFuncLeaves
import Derived.RangeFuncCalls
import Derived.OwnWalkIn
import Derived.TacticsInMore
import Derived.LoopNIn
import Derived.LoopIn
namespace Go.Proofs.Ytjjiljijcigekaa
set_option linter.unusedVariables false
set_option linter.unusedSimpArgs false
open Go.RowKit

variable {F : Fence} {n : Nat} {P : Program}

theorem SatL.putObj {w : World} {L : List HP} {b : Nat} {o : Obj} (h : SatL w (pt b o :: L)) (o' : Obj) : SatL (w.putObj b o') (pt b o' :: L) := by
  refine SatL.put h rfl (World.putObj_heap_same h.lt) ?_
  intro c hc
  exact World.putObj_heap_other (fun e => hc e)

/-- the iterator gf (with what it has captured, lb) yields xs, one behind the other; R is what it reads and leaves as it is; A is whatever the rounds hold -/
def SeqSl {α : Type} (F : Fence) (n : Nat) (P : Program) (gf : Nat) (lb : Array Value) (encs : α → Array Value) (xs : List α) (R : List HP) : Prop :=
  ∀ (l : Nat) (A : List α → List HP) (W : World), SatL W (R ++ A []) →
    (∀ pre x W1, pre ++ [x] <+: xs → SatL W1 (R ++ A pre) → YieldAt F (n - 1) P l (encs x) W1 fun e W' => e = .returned (.bool true) ∧ SatL W' (R ++ A (pre ++ [x]))) →
    CallsIn F n P gf (#[.func (.yield l) #[] #[]] ++ lb) W fun e W' => (∃ v, e = .returned v) ∧ SatL W' (R ++ A xs)

def seqPost (L : List HP) : Exit → Act → World → Prop
  | .normal, _, w => SatL w L
  | _, _, _ => False

theorem wpIn_rangeFunc_sl {α : Type} {g : Operand} {ps : Array Tmp} {assign body : Code} {Q : Exit → Act → World → Prop} {a : Act} {w : World}
    (hro : F.round = none) (h1 : 1 ≤ n) {gf : Nat} {lb : Array Value} (hg : a.eval g = .func (.func gf) #[] lb) (hFg : F.fn gf) (eg : ∀ args w, (callFunc gf args).run P w = .ok (.enter gf args) w)
    {encs : α → Array Value} {xs : List α} {R : List HP} (hseq : SeqSl F (n - 1) P gf lb encs xs R) (hps : ∀ x, (encs x).size = ps.size)
    (A : List α → List HP) (h0 : SatL w (R ++ A [])) (a₁ : α → Act)
    (hassign : ∀ (l : Nat) (x : α) (W : World) (K : Act → World → Prop), K (a₁ x) W →
      assign.wpIn (F.inRound l) (n - 1 - 1) P (Exit.then K (fun _ _ _ => False)) { tmps := (ps.zip (encs x)).foldl (fun t (p, v) => t.setIfInBounds p v) a.tmps, defers := [] } W)
    (hbody : ∀ (l : Nat) (pre : List α) (x : α) (X Y : HP) (W : World), pre ++ [x] <+: xs → SatL W (X :: Y :: (R ++ A pre)) → body.wpIn (F.inRound l) (n - 1 - 1) P (seqPost (X :: Y :: (R ++ A (pre ++ [x])))) (a₁ x) W)
    (hdone : ∀ (D : Nat) (W : World), SatL W (pt D (.deferred (some [])) :: (R ++ A xs)) → Q .normal { a with defers := { target := .collected D, args := #[] } :: a.defers } W) :
    (Code.rangeFunc g ps assign body).wpIn F n P Q a w := by
  refine wpIn_rangeFunc ?_
  intro fn hfn
  rw [hro]
  obtain ⟨rec, hrec⟩ : ∃ rec : LoopState → Loop, rec = fun st => { state := st, pending := none, fn, tmps := a.tmps, params := ps, assign, body, defers := w.heap.size } := ⟨_, rfl⟩
  obtain ⟨W1, hW1⟩ : ∃ W1, (w.alloc (.deferred (some []))).alloc (.loop (rec .ready)) = W1 := ⟨_, rfl⟩
  have hs1 : SatL W1 (pt (w.heap.size + 1) (.loop (rec .ready)) :: pt w.heap.size (.deferred (some [])) :: (R ++ A [])) := by
    rw [← hW1]
    exact (h0.alloc _).allocN _ (by simp)
  refine ⟨w.heap.size + 1, [{ target := .collected w.heap.size, args := #[] }], W1, { target := .fn (.func gf) lb, args := #[.func (.yield (w.heap.size + 1)) #[] #[]] }, W1, gf,
    #[.func (.yield (w.heap.size + 1)) #[] #[]] ++ lb, W1, ?_, ?_, ?_, ?_, fun _ => h1, ?_⟩
  · rw [← hW1, hrec]; exact run_enterLoop_outer _ _ _ _ _
  · simp only [resolve, hg]
    simp [go_sem]
  · intro f' hf'; simp [Target.leads] at hf'; subst hf'; exact hFg
  · simp [invoke, go_sem, eg]
  · have toL : ∀ (W : World) (X Y : HP) (L : List HP), SatL W (X :: Y :: (R ++ L)) ↔ SatL W (R ++ (X :: Y :: L)) := fun W X Y L => by
      have p : (X :: Y :: (R ++ L)).Perm (R ++ (X :: Y :: L)) := by
        have := List.perm_append_comm (l₁ := [X, Y]) (l₂ := R)
        have h2 := this.append_right L
        simpa [List.append_assoc] using h2
      exact ⟨fun h => h.perm p, fun h => h.perm p.symm⟩
    refine (hseq (w.heap.size + 1) (fun pre => pt (w.heap.size + 1) (.loop (rec .ready)) :: pt w.heap.size (.deferred (some [])) :: A pre) W1 ((toL _ _ _ _).1 hs1) ?_).mono ?_
    · intro pre x W hpre hW
      have hW := (toL _ _ _ _).2 hW
      have hl : W.heap[w.heap.size + 1]? = some (.loop (rec .ready)) := hW.heap
      have hy := run_yield (P := P) (args := encs x) hl (by rw [hrec]; exact hps x)
      rw [hrec] at hy
      refine ⟨fn, _, assign, body, hy, roundIn_of_wpIn hfn (hassign _ x W _ ⟨_, run_beginRound hl (by rw [hrec]), ?_⟩)⟩
      have h2 := hW.putObj (.loop { rec .ready with state := .busy })
      refine wpIn_mono (hbody _ pre x _ _ _ hpre h2) ?_
      intro e a3 W3 hp
      cases e with
      | normal =>
        have h3 : SatL W3 (pt (w.heap.size + 1) (.loop { rec .ready with state := .busy }) :: pt w.heap.size (.deferred (some [])) :: (R ++ A (pre ++ [x]))) := hp
        have hr := run_endRound (P := P) none h3.heap
        have h4 := h3.putObj (.loop { { rec .ready with state := .busy } with state := if (none : Option Code).isNone then .ready else .done, pending := none })
        refine ⟨_, _, hr, rfl, (toL _ _ _ _).1 ?_⟩
        have e1 : ({ { rec .ready with state := .busy } with state := if (none : Option Code).isNone then .ready else .done, pending := none } : Loop) = rec .ready := by rw [hrec]; rfl
        rw [e1] at h4
        rw [e1]
        exact h4
      | ret => exact hp.elim
      | exit id => exact hp.elim
      | goto t => exact hp.elim
      | panic ch => exact hp.elim
      | outgrown => exact hp.elim
    · rintro e W2 ⟨⟨v, rfl⟩, h2⟩
      have h2 := (toL _ _ _ _).2 h2
      have hr := run_endLoop (P := P) h2.heap (by rw [hrec]; simp)
      rw [hrec] at hr
      refine ⟨none, _, hr, hdone _ _ ?_⟩
      have h3 := h2.putObj (.loop { rec .ready with state := .exhausted })
      rw [hrec] at h3
      exact h3.tail
end Go.Proofs.Ytjjiljijcigekaa
