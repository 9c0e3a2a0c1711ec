/- Stores into blocks that are owned, at the operation: the world behind is a new name. No condition. -/
import Derived.Test.YtklnlomleiebaaaPush
namespace Go.Proofs.Ytklnlomleiebaaa
set_option linter.unusedVariables false
set_option linter.unusedSimpArgs false
open Go.RowKit

section
variable {P : Program} {w : World} {l : List HP} {T : Nat} {v : Value} {xs : List Value}

theorem run_store_sl {t b i : Nat} {cs : Array Value} (h : SatL w (cl b T cs :: l)) (hi : i < cs.size) (hv : v.oneCell' = true) (hs : ∀ w : World, ∀ a : Addr, (Instr.storeAt t (.pointer (some a)) v).run P w = (store a v).run P w) :
    (Instr.storeAt t (.pointer (some ⟨b, i, none⟩)) v).run P w = .ok () (w.setCell ⟨b, i, none⟩ v) := by
  rw [hs, run_store P w _ v _ hv]
  rw [h.cell (i := i) (v := cs[i]) (Array.getElem?_eq_getElem hi), h.free i]
  rfl

theorem wpList_store_cl {ops : Array Oper} {rest : List Oper} {o : Oper} {a : Act} {Q : Exit → Act → World → Prop} (hgd : o.guard = none) (x y : Operand) {t b i : Nat} {cs : Array Value}
    (ho : o.op = .store t x y) (hx : a.eval x = .pointer (some ⟨b, i, none⟩)) (hy : a.eval y = v) (h : SatL w (cl b T cs :: l)) (hi : i < cs.size) (hv : v.oneCell' = true)
    (hs : ∀ w : World, ∀ a : Addr, (Instr.storeAt t (.pointer (some a)) v).run P w = (store a v).run P w)
    (K : ∀ w', SatL w' (cl b T (cs.setIfInBounds i v) :: l) → wpList P ops Q rest (a.put o.dst (.tuple #[])) w') : wpList P ops Q (o :: rest) a w :=
  wpList_plain hgd fun _ hK => by
    have hr := run_store_sl (P := P) (t := t) h hi hv hs
    unfold Oper.wp
    simp [execOp, ho, hx, hy, hr, Result.andThen]
    exact hK _ _ (K _ (h.set v))
theorem wpList_store_at {ops : Array Oper} {rest : List Oper} {o : Oper} {a : Act} {Q : Exit → Act → World → Prop} (hgd : o.guard = none) (x y : Operand) {t b off n c i : Nat}
    (ho : o.op = .store t x y) (hx : a.eval x = .pointer (some ⟨b, off + i, none⟩)) (hy : a.eval y = v) (h : SatL w (Sl T (.slice (some ⟨b, off, none⟩) n c) xs :: l)) (hi : i < xs.length) (hv : v.oneCell' = true)
    (hs : ∀ w : World, ∀ a : Addr, (Instr.storeAt t (.pointer (some a)) v).run P w = (store a v).run P w)
    (K : ∀ w', SatL w' (Sl T (.slice (some ⟨b, off, none⟩) n c) (xs.set i v) :: l) → wpList P ops Q rest (a.put o.dst (.tuple #[])) w') : wpList P ops Q (o :: rest) a w :=
  wpList_plain hgd fun _ hK => by
    have hc := Sl.cell h (i := i) (x := xs[i]) (List.getElem?_eq_getElem hi)
    have hr : (Instr.storeAt t (.pointer (some ⟨b, off + i, none⟩)) v).run P w = .ok () (w.setCell ⟨b, off + i, none⟩ v) := by
      rw [hs, run_store P w _ v _ hv, hc, Sl.free h (off + i)]
      rfl
    unfold Oper.wp
    simp [execOp, ho, hx, hy, hr, Result.andThen]
    exact hK _ _ (K _ (Sl.set h hi v))
end
section
variable {P : Program} {w : World} {l : List HP} {T bytes : Nat}
theorem step_make_sl {ops : Array Oper} {o : Oper} {a : Act} {K : Act → World → Prop} {Q : Exit → Act → World → Prop} {X : Prop} (hw : Region.wanted o (yielded ops a.tmps) = true) (x y : Operand) {t : Nat} {z : Value}
    (ho : o.op = .makeSlice t x y) (E : ElemOk P t T 1 bytes [z]) (n : Nat) (hx : a.eval x = .int .i64 n) (hy : a.eval y = .int .i64 n) (h : SatL w l) (hb : n * bytes ≤ 281474976710656) (hn : n ≤ 4611686018427387904)
    (H : ∀ w' nb, SatL w' (Sl T (.slice (some ⟨nb, 0, none⟩) n n) (List.replicate n z) :: l) → K (a.put o.dst (.slice (some ⟨nb, 0, none⟩) n n)) w') :
    if Region.wanted o (yielded ops a.tmps) = true then Oper.wp P o a w K Q else X := by
  rw [if_pos hw]
  obtain ⟨w', hr, h2⟩ := run_make_sl E h n hb hn
  unfold Oper.wp
  simp [execOp, ho, hx, hy, hr, Result.andThen]
  exact H w' _ h2
end
end Go.Proofs.Ytklnlomleiebaaa
