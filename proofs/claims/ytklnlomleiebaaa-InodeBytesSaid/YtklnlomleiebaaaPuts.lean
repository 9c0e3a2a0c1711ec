/- Rows of blocks with their places (api.Put), owned with their bytes. No condition. -/
import Derived.Test.YtklnlomleiebaaaNumB
namespace Go.Proofs.Ytklnlomleiebaaa
set_option linter.unusedVariables false
set_option linter.unusedSimpArgs false
open Go.RowKit

structure Pt where
  b : Int
  v : Value
  d : List UInt8
def pcells (ps : List Pt) : List Value := ps.flatMap fun p => [.int .i64 p.b, p.v]
def PutsR (lv : Value) (ps : List Pt) : HP := sep [SlK 66 2 lv ps.length (pcells ps), big (fun p : Pt => SlB 5 p.v p.d) ps]
/-- the same, the places of the bytes left open -/
def PutsL (lv : Value) (l : List (Int × List UInt8)) : HP := ex fun ps => sep [pur (ps.map (fun p => (p.b, p.d)) = l), PutsR lv ps]

theorem pcells_len (ps : List Pt) : (pcells ps).length = ps.length * 2 := by
  induction ps with
  | nil => rfl
  | cons p ps ih => simp only [pcells, List.flatMap_cons, List.length_append, List.length_cons, List.length_nil] at *; omega
theorem pcells_snoc (ps : List Pt) (p : Pt) : pcells (ps ++ [p]) = pcells ps ++ [.int .i64 p.b, p.v] := by simp [pcells]
theorem elem_put : ElemOk Try.prog 58 66 2 32 [Value.int .i64 0, Value.slice none 0 0] := .of (z := .agg #[.int .i64 0, .slice none 0 0]) (by kernel_rfl) (by kernel_rfl) rfl rfl (by decide) (by simp [Value.oneCell'])

section
variable {P : Program} {w : World} {L : List HP} {T k n bytes : Nat} {v : Value} {xs zs : List Value}
theorem sat_PutsR {lv : Value} {ps : List Pt} : SatL w (PutsR lv ps :: L) ↔ SatL w (SlK 66 2 lv ps.length (pcells ps) :: big (fun p : Pt => SlB 5 p.v p.d) ps :: L) := by
  unfold PutsR; rw [sat_sep]; rfl
theorem sat_PutsL {lv : Value} {l : List (Int × List UInt8)} : SatL w (PutsL lv l :: L) ↔ ∃ ps, ps.map (fun p => (p.b, p.d)) = l ∧ SatL w (PutsR lv ps :: L) := by
  simp only [PutsL, sat_ex, sat_sep, List.cons_append, List.nil_append, sat_pur]

/-- append of one element of k cells, from a row that was just made -/
theorem wpList_pushK_sl {ops : Array Oper} {rest : List Oper} {o : Oper} {a : Act} {Q : Exit → Act → World → Prop} {nb : Nat} {cs : Array Value} (hnb : nb = w.heap.size) (hgd : o.guard = none) (s x : Operand) {t : Nat}
    (ho : o.op = .call { callee := .builtin .append, args := #[s, x], argTypes := #[t, t] }) (E : ElemOk P t T k bytes zs) (hbp : 0 < bytes)
    (hs : a.eval s = v) (h : SatL w (SlK T k v n xs :: L)) (hy : a.eval x = .slice (some ⟨nb, 0, none⟩) 1 1) (hcs : cs.size = k)
    (h1 : ∀ y ∈ cs.toList, y.oneCell' = true) (hb : (n + 1) * bytes ≤ 140737488355328)
    (K : ∀ v' w', SatL w' (SlK T k v' (n + 1) (xs ++ cs.toList) :: L) → wpList P ops Q rest (a.put o.dst v') w') : wpList P ops Q (o :: rest) a (w.alloc (.cells cs T)) := by
  subst hnb
  have al := h.alloc (.cells cs T)
  refine wpList_append_sl hgd s x ho E hs al.swap hy (SrcOk.ofCl (n := 1) E.under al (by rw [hcs, Nat.one_mul]) 1) h1 hb ?_ ?_
  · unfold maxLen
    have : n + 1 ≤ (n + 1) * bytes := Nat.le_mul_of_pos_right _ hbp
    omega
  · intro v' w' h6 _
    exact K v' w' h6.swap.tail
theorem step_pushK_sl {ops : Array Oper} {o : Oper} {a : Act} {K : Act → World → Prop} {Q : Exit → Act → World → Prop} {X : Prop} {nb : Nat} {cs : Array Value} (hnb : nb = w.heap.size) (hgd : o.guard = none) (s x : Operand) {t : Nat}
    (ho : o.op = .call { callee := .builtin .append, args := #[s, x], argTypes := #[t, t] }) (E : ElemOk P t T k bytes zs) (hbp : 0 < bytes)
    (hs : a.eval s = v) (h : SatL w (SlK T k v n xs :: L)) (hy : a.eval x = .slice (some ⟨nb, 0, none⟩) 1 1) (hcs : cs.size = k)
    (h1 : ∀ y ∈ cs.toList, y.oneCell' = true) (hb : (n + 1) * bytes ≤ 140737488355328)
    (H : ∀ v' w', SatL w' (SlK T k v' (n + 1) (xs ++ cs.toList) :: L) → K (a.put o.dst v') w') :
    if Region.wanted o (yielded ops a.tmps) = true then Oper.wp P o a (w.alloc (.cells cs T)) K Q else X := by
  subst hnb
  have al := h.alloc (.cells cs T)
  refine step_append_sl hgd s x ho E hs al.swap hy (SrcOk.ofCl (n := 1) E.under al (by rw [hcs, Nat.one_mul]) 1) h1 hb ?_ ?_
  · unfold maxLen
    have : n + 1 ≤ (n + 1) * bytes := Nat.le_mul_of_pos_right _ hbp
    omega
  · intro v' w' h6 _
    exact H v' w' h6.swap.tail
/-- a row behind it -/
theorem PutsL.snoc {lv' : Value} {ps : List Pt} {b : Int} {u : Value} {d : List UInt8} (h : SatL w (SlK 66 2 lv' (ps.length + 1) (pcells ps ++ [.int .i64 b, u]) :: big (fun p : Pt => SlB 5 p.v p.d) ps :: SlB 5 u d :: L)) :
    SatL w (PutsR lv' (ps ++ [⟨b, u, d⟩]) :: L) := by
  rw [sat_PutsR, pcells_snoc, List.length_append]
  have h2 : SatL w (SlB 5 u d :: big (fun p : Pt => SlB 5 p.v p.d) (ps ++ []) :: SlK 66 2 lv' (ps.length + 1) (pcells ps ++ [.int .i64 b, u]) :: L) := by
    rw [List.append_nil]; exact h.bring [2, 1, 0]
  exact (big_mid (x := (⟨b, u, d⟩ : Pt)) |>.2 h2).swap
theorem PutsR.one {b : Int} {u : Value} {d : List UInt8} {nb : Nat} (h : SatL w (cl nb 66 #[.int .i64 b, u] :: SlB 5 u d :: L)) : SatL w (PutsR (.slice (some ⟨nb, 0, none⟩) 1 1) [⟨b, u, d⟩] :: L) := by
  rw [sat_PutsR]
  have h2 : SatL w (SlK 66 2 (.slice (some ⟨nb, 0, none⟩) 1 1) 1 [.int .i64 b, u] :: SlB 5 u d :: L) :=
    sat_SlK.2 (.inr ⟨nb, 0, 1, _, ⟨rfl, Nat.le_refl _, by unfold maxLen; omega, rfl, by simp, by simp⟩, h⟩)
  exact (big_cons (x := (⟨b, u, d⟩ : Pt)) (xs := []) |>.2 (h2.swap |> fun h => (big_nil (f := fun p : Pt => SlB 5 p.v p.d)).2 h |>.swap)).swap |> fun h => h.swap |> fun h => h.swap
end
end Go.Proofs.Ytklnlomleiebaaa
