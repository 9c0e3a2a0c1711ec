/- For WalTorn: one group, the appends of blocks that stay. No condition. -/
import Derived.Test.YtjjnadlklfegcaaTorn
import Derived.Test.YtjjnadlklfegcaaCopyPuts
import Derived.Test.YtjjnadlklfegcaaLogRd
namespace Go.Proofs.Ytjjnadlklfegcaa
set_option linter.unusedVariables false
set_option linter.unusedSimpArgs false
open Go.RowKit

section
variable {w : World} {L : List HP}
/-- the group that a row of blocks makes -/
def grpOf (n : Nat) (A : Nat → Int) (B : Nat → Nat) : List PD := grpTo A B (min n 30)
theorem grpOf_ok (n : Nat) (A : Nat → Int) (B : Nat → Nat) : GrpOk (grpOf n A B) := grpTo_ok _ _ _
theorem grpOf_len (n : Nat) (A : Nat → Int) (B : Nat → Nat) : (grpOf n A B).length ≤ 30 := by
  have := grpTo_len A B (min n 30); unfold grpOf; omega
theorem gives_one {a : Option Addr} {n c nb T : Nat} {A S : Nat → Int} {B : Nat → Nat} (g : Gives L (BlkRow a n A S B)) :
    Gives (pt nb (.cells #[.slice a n c] T) :: L) (BlkRows (some ⟨nb, 0, none⟩) 1 (fun _ => a) (fun _ => n) (fun _ => c) (fun _ => A) (fun _ => S) (fun _ => B)) := by
  intro w' h
  refine ⟨⟨by omega, fun _ => ⟨nb, 0, rfl, fun i hi => ⟨rfl, fun j v hv => ?_⟩⟩⟩, fun i _ => g w' h.tail⟩
  obtain rfl : i = 0 := by omega
  cases j with
  | zero =>
    simp at hv
    subst hv
    exact SatL.cell h (i := 0) rfl
  | succ j => simp at hv
theorem group_yes {a : Option Addr} {n c T : Nat} {A S : Nat → Int} {B : Nat → Nat} (hB : ∀ k, B k < 256) (hG : grpOf n A B ≠ []) (h : SatL w L) (g : Gives L (BlkRow a n A S B)) :
    Calls Try.prog 19 #[.slice (some ⟨w.heap.size, 0, none⟩) 1 1] (w.alloc (.cells #[.slice a n c] T))
      (Ret fun r w' => ∃ gb go gc ua uc ps, r = .slice (some ⟨gb, go, none⟩) 1 gc ∧ pds ps = grpOf n A B ∧ SatL w' (Sl 25 (.slice (some ⟨gb, go, none⟩) 1 gc) [.slice ua ps.length uc] :: PutsR (.slice ua ps.length uc) ps :: L)) := by
  refine (groups_ok (fun _ k => hB k) (h.alloc (.cells #[.slice a n c] T)) (gives_one g)).mono ?_
  rintro e w' ⟨r, rfl, h1⟩
  obtain ⟨gs, hgs, h2⟩ := sat_GrpsL.1 h1
  rw [show min 1 5 = 0 + 1 from rfl, grpsTo, grpsTo, show grpTo A B (min n 30) = grpOf n A B from rfl, if_neg hG] at hgs
  match gs, hgs with
  | [(u, ps)], hgs =>
    have hps : pds ps = grpOf n A B := by simpa using hgs
    have h3 := sat_GrpsR.1 h2
    obtain ⟨ra, rc, rfl, _⟩ := Sl.valn h3 (m := 1) (by simp)
    obtain ⟨gb, go, rfl⟩ := Sl.addr h3 (by omega)
    have h4 : SatL w' (PutsR u ps :: big (fun g : Value × List Pt => PutsR g.1 g.2) [] :: _) := (big_cons (f := fun g : Value × List Pt => PutsR g.1 g.2) (x := (u, ps)) (xs := [])).1 (SatL.pull h3 1 : SatL w' (big (fun g : Value × List Pt => PutsR g.1 g.2) [(u, ps)] :: _))
    obtain ⟨ua, uc, rfl, _⟩ := (PutsR.rdpts h4).1.valn
    refine ⟨_, rfl, gb, go, rc, ua, uc, ps, rfl, hps, ?_⟩
    have h5 := (big_nil (f := fun g : Value × List Pt => PutsR g.1 g.2)).1 (SatL.pull h4 1 : SatL w' (big (fun g : Value × List Pt => PutsR g.1 g.2) [] :: _))
    exact SatL.tail (h5.bring [2, 1, 0])
  | [], hgs => simp at hgs
  | _ :: _ :: _, hgs => simp at hgs
theorem group_no {a : Option Addr} {n c T : Nat} {A S : Nat → Int} {B : Nat → Nat} (hB : ∀ k, B k < 256) (hG : grpOf n A B = []) (h : SatL w L) (g : Gives L (BlkRow a n A S B)) :
    Calls Try.prog 19 #[.slice (some ⟨w.heap.size, 0, none⟩) 1 1] (w.alloc (.cells #[.slice a n c] T))
      (Ret fun r w' => ∃ ga gc, r = .slice ga 0 gc ∧ SatL w' L) := by
  refine (groups_ok (fun _ k => hB k) (h.alloc (.cells #[.slice a n c] T)) (gives_one g)).mono ?_
  rintro e w' ⟨r, rfl, h1⟩
  obtain ⟨gs, hgs, h2⟩ := sat_GrpsL.1 h1
  rw [show min 1 5 = 0 + 1 from rfl, grpsTo, grpsTo, show grpTo A B (min n 30) = grpOf n A B from rfl, if_pos hG] at hgs
  have he : gs = [] := by simpa using hgs
  subst he
  have h3 := sat_GrpsR.1 h2
  obtain ⟨ra, rc, rfl, _⟩ := Sl.valn h3 (m := 0) (by simp)
  exact ⟨_, rfl, ra, rc, rfl, h3.tail.tail.tail⟩
/-- append([]api.Put{}, x...), x kept -/
theorem step_copyKeep {ops : Array Oper} {o : Oper} {a : Act} {K : Act → World → Prop} {Q : Exit → Act → World → Prop} {X : Prop} {nb : Nat} {v : Value} {ps : List Pt} (hgd : o.guard = none) (s x : Operand)
    (ho : o.op = .call { callee := .builtin .append, args := #[s, x], argTypes := #[25, 25] }) (hs : a.eval s = .slice (some ⟨nb, 0, none⟩) 0 0) (hy : a.eval x = v)
    (h : SatL w (SlK 29 2 (.slice (some ⟨nb, 0, none⟩) 0 0) 0 [] :: PutsR v ps :: L)) (hl : ps.length ≤ 1000000)
    (H : ∀ v' w', SatL w' (SlK 29 2 v' ps.length (pcells ps) :: PutsR v ps :: L) → K (a.put o.dst v') w') :
    if Region.wanted o (yielded ops a.tmps) = true then Oper.wp Try.prog o a w K Q else X := by
  have hp := sat_PutsR.1 h.swap
  refine step_append_sl hgd s x ho elem_put hs h hy (SrcOk.ofK elem_put.under hp) (pcells_one (PutsR.ptsl h.swap)) (by omega) (by unfold maxLen; omega) ?_
  intro v' w' h2 _
  rw [Nat.zero_add, List.nil_append] at h2
  exact H v' w' h2
theorem pcells_snoc1 (ps : List Pt) (b : Int) (u : Value) (d : List UInt8) : pcells (ps ++ [⟨b, u, d⟩]) = pcells ps ++ (#[.int .i64 b, u] : Array Value).toList := by simp [pcells]
theorem step_cell_new {ops : Array Oper} {o : Oper} {a : Act} {K : Act → World → Prop} {Q : Exit → Act → World → Prop} {X : Prop} {nb : Nat} {v u : Value} {ps : List Pt} {b : Int} {d : List UInt8} (hnb : nb = w.heap.size) (hgd : o.guard = none) (s x : Operand)
    (ho : o.op = .call { callee := .builtin .append, args := #[s, x], argTypes := #[25, 25] }) (hs : a.eval s = v) (hy : a.eval x = .slice (some ⟨nb, 0, none⟩) 1 1)
    (hu : u.oneCell' = true) (h : SatL w (SlK 29 2 v ps.length (pcells ps) :: L)) (hl : ps.length ≤ 1000000)
    (H : ∀ v' w', SatL w' (SlK 29 2 v' (ps.length + 1) (pcells (ps ++ [⟨b, u, d⟩])) :: L) → K (a.put o.dst v') w') :
    if Region.wanted o (yielded ops a.tmps) = true then Oper.wp Try.prog o a (w.alloc (.cells #[.int .i64 b, u] 29)) K Q else X := by
  refine step_pushK_sl hnb hgd s x ho elem_put (by omega) hs h hy rfl (by intro y hy; simp at hy; rcases hy with rfl | rfl <;> first | rfl | exact hu) (by omega) ?_
  intro v' w' h2
  exact H v' w' (by rw [pcells_snoc1]; exact h2)
theorem step_cell_cl {ops : Array Oper} {o : Oper} {a : Act} {K : Act → World → Prop} {Q : Exit → Act → World → Prop} {X : Prop} {nb : Nat} {v u : Value} {ps : List Pt} {b : Int} {d : List UInt8} (hgd : o.guard = none) (s x : Operand)
    (ho : o.op = .call { callee := .builtin .append, args := #[s, x], argTypes := #[25, 25] }) (hs : a.eval s = v) (hy : a.eval x = .slice (some ⟨nb, 0, none⟩) 1 1)
    (hu : u.oneCell' = true) (h : SatL w (SlK 29 2 v ps.length (pcells ps) :: pt nb (.cells #[.int .i64 b, u] 29) :: L)) (hl : ps.length ≤ 1000000)
    (H : ∀ v' w', SatL w' (SlK 29 2 v' (ps.length + 1) (pcells (ps ++ [⟨b, u, d⟩])) :: L) → K (a.put o.dst v') w') :
    if Region.wanted o (yielded ops a.tmps) = true then Oper.wp Try.prog o a w K Q else X := by
  refine step_append_sl hgd s x ho elem_put hs h hy (SrcOk.ofCl (n := 1) elem_put.under (SatL.pull h 1 : SatL w (pt _ _ :: _)) rfl 1) (by intro y hy; simp at hy; rcases hy with rfl | rfl <;> first | rfl | exact hu) (by omega) (by unfold maxLen; omega) ?_
  intro v' w' h2 _
  exact H v' w' (by rw [pcells_snoc1]; exact SatL.tail h2.swap)
theorem emptyK (h : SatL w L) : SatL (w.alloc (.cells #[] 29)) (SlK 29 2 (.slice (some ⟨w.heap.size, 0, none⟩) 0 0) 0 [] :: L) :=
  sat_SlK.2 (.inr ⟨w.heap.size, 0, 0, #[], ⟨rfl, Nat.le_refl _, by decide, rfl, by simp, rfl⟩, h.alloc _⟩)
theorem emptyKN {n : Nat} (hn : n = w.heap.size) (h : SatL w L) : SatL (w.alloc (.cells #[] 29)) (SlK 29 2 (.slice (some ⟨n, 0, none⟩) 0 0) 0 [] :: L) := by
  subst hn; exact emptyK h
end
end Go.Proofs.Ytjjnadlklfegcaa
