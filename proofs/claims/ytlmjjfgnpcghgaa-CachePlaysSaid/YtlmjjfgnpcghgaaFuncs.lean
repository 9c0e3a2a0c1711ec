/- What slices.IndexFunc and slices.DeleteFunc do with a slice that is owned, by a function that only asks. -/
import Derived.Test.YtlmjjfgnpcghgaaOps
import Derived.Test.YtlmjjfgnpcghgaaRows
namespace Go.Proofs.Ytlmjjfgnpcghgaa
set_option linter.unusedVariables false
set_option linter.unusedSimpArgs false
open Go.RowKit

def idx (p : Value → Bool) : List Value → Nat → Int
  | [], _ => -1
  | x :: l, k => if p x then k else idx p l (k + 1)

theorem idx_drop (p : Value → Bool) (xs : List Value) (k : Nat) (x : Value) (h : xs[k]? = some x) : idx p (xs.drop k) k = if p x then (k : Int) else idx p (xs.drop (k+1)) (k+1) := by
  have hk : k < xs.length := (List.getElem?_eq_some_iff.1 h).1
  rw [List.drop_eq_getElem_cons hk]
  have : xs[k] = x := (List.getElem?_eq_some_iff.1 h).2
  simp [idx, this]

theorem idx_spec (p : Value → Bool) : ∀ (xs : List Value) (k : Nat), (idx p xs k = -1 ∧ xs.filter (fun x => !p x) = xs) ∨
    ∃ i x, xs[i]? = some x ∧ p x = true ∧ idx p xs k = ((k + i : Nat) : Int) ∧ (xs.take i).filter (fun x => !p x) = xs.take i
  | [], k => .inl ⟨rfl, rfl⟩
  | y :: xs, k => by
    by_cases hy : p y
    · exact .inr ⟨0, y, rfl, hy, by simp [idx, hy], rfl⟩
    · rcases idx_spec p xs (k + 1) with ⟨h1, h2⟩ | ⟨i, x, h1, h2, h3, h4⟩
      · exact .inl ⟨by simp [idx, hy, h1], by simp [hy, h2]⟩
      · exact .inr ⟨i + 1, x, h1, h2, by simp [idx, hy, h3]; omega, by simp [hy, h4]⟩

/-- a function that is called by its number -/
def CallOk (P : Program) (f : Nat) : Prop := ∀ args w, (callFunc f args).run P w = .ok (.enter f args) w

def IdxPost (l : List HP) (r : Int) (v : Value) (w : World) : Prop := v = .int .i64 r ∧ SatL w l
def SlPost (T : Nat) (xs : List Value) (l : List HP) (v : Value) (w : World) : Prop := SatL w (Sl T v xs :: l)
def BoolPost (l : List HP) (r : Bool) (v : Value) (w : World) : Prop := v = .bool r ∧ SatL w l
def IntPost (l : List HP) (r : Int) (v : Value) (w : World) : Prop := v = .int .i64 r ∧ SatL w l
def UnitPost (l : List HP) (v : Value) (w : World) : Prop := v = .tuple #[] ∧ SatL w l

/-- what a function that asks is told of -/
def Asks (P : Program) (f : Nat) (cs : Array Value) (test : Value → Bool) (xs : List Value) (l : List HP) : Prop :=
  ∀ x ∈ xs, ∀ w, SatL w l → Calls P f (#[x] ++ cs) w (Ret (BoolPost l (test x)))

set_option maxHeartbeats 400000 in
theorem indexFunc_ent (f : Nat) (cs : Array Value) (test : Value → Bool) (v : Value) (xs : List Value) (l : List HP) (w : World)
    (h : SatL w (Sl 54 v xs :: l)) (hcf : CallOk Try.prog f) (hf : Asks Try.prog f cs test xs (Sl 54 v xs :: l)) :
    Calls Try.prog 51 #[v, .func (.func f) #[] cs] w (Ret (IdxPost (Sl 54 v xs :: l) (idx test xs 0))) := by
  unfold CallOk at hcf
  rcases Sl.form h with ⟨rfl, rfl⟩ | ⟨b, off, cap, rfl, h1, h2⟩
  · go_enter Try.func51, Try.ntmps51
    go_wp2
    go_loopw [8] (fun i wr => i = .int .i64 0 ∧ SatL wr (Sl 54 (.slice none 0 0) [] :: l)) (fun _ _ => 0)
    case atStart => exact ⟨rfl, h⟩
    case round =>
      obtain ⟨rfl, hs⟩ := hrel
      go_wp2
      go_ret
      exact Ret.mk ⟨rfl, hs⟩
  · unfold maxLen at h2
    go_enter Try.func51, Try.ntmps51
    go_wp2
    go_loopw [8] (fun i wr => ∃ k : Nat, k ≤ xs.length ∧ i = .int .i64 k ∧ idx test xs 0 = idx test (xs.drop k) k ∧ SatL wr (Sl 54 (.slice (some ⟨b, off, none⟩) xs.length cap) xs :: l)) (fun i _ => xs.length - (intOf i).toNat)
    case atStart => exact ⟨0, Nat.zero_le _, rfl, rfl, h⟩
    case round =>
      obtain ⟨k, hk, rfl, hidx, hs⟩ := hrel
      have Hidx := hid hidx; clear hidx
      by_cases hlt : k < xs.length
      · have hx : xs[k]? = some xs[k] := List.getElem?_eq_getElem hlt
        have hc := Sl.cell hs hx
        have Hd := hid (idx_drop test xs k _ hx)
        have hmem : xs[k] ∈ xs := List.getElem_mem hlt
        generalize xs[k] = x at *
        clear hx
        go_wp2_with (refine (hf x hmem _ hs).mono ?_; rintro e w' ⟨v, rfl, rfl, hs'⟩)
        · rename_i ht
          go_ret
          exact Ret.mk ⟨by rw [Hidx.out, Hd.out, ht]; rfl, hs'⟩
        · rename_i ht
          go_roundw
          case rel => exact ⟨k + 1, by omega, by go_num, by rw [Hidx.out, Hd.out, ht]; rfl, hs'⟩
          case measure => simp [intOf]; omega
      · go_wp2
        go_ret
        exact Ret.mk ⟨by rw [Hidx.out, List.drop_eq_nil_of_le (by omega)]; rfl, hs⟩

theorem elem_ent : ElemOk Try.prog 51 54 1 8 [Value.pointer none] :=
  .of (z := Value.pointer none) (by kernel_rfl) (by kernel_rfl) rfl rfl (by decide) (by simp [Value.oneCell'])

set_option maxHeartbeats 400000 in
theorem deleteFunc_ent (f : Nat) (cs : Array Value) (test : Value → Bool) (v : Value) (xs : List Value) (l : List HP) (w : World)
    (h : SatL w (Sl 54 v xs :: l)) (hcf : CallOk Try.prog f) (hsh : ∀ x ∈ xs, ∃ z, x = Value.pointer z) (hf : ∀ ys, ys.length = xs.length → Asks Try.prog f cs test xs (Sl 54 v ys :: l)) :
    Calls Try.prog 40 #[v, .func (.func f) #[] cs] w (Ret (SlPost 54 (xs.filter (fun x => !test x)) l)) := by
  rcases idx_spec test xs 0 with ⟨h1, h2⟩ | ⟨i, x, h1, h2, h3, h4⟩
  · have H1 := hid h1; clear h1
    have hi := indexFunc_ent f cs test v xs l w h hcf (hf xs rfl)
    rw [H1.out] at hi
    rw [h2]
    clear h2
    rcases Sl.form h with ⟨rfl, rfl⟩ | ⟨b, off, cap, rfl, _, _⟩
    all_goals
      go_enter Try.func40, Try.ntmps40
      go_wp2_with (refine hi.mono ?_; rintro e w' ⟨v, rfl, rfl, hs'⟩)
      go_ret
      exact Ret.mk hs'
  · have hi := indexFunc_ent f cs test v xs l w h hcf (hf xs rfl)
    rw [h3] at hi
    clear h3
    simp only [Nat.zero_add] at hi
    have hlt : i < xs.length := (List.getElem?_eq_some_iff.1 h1).1
    rcases Sl.form h with ⟨rfl, rfl⟩ | ⟨b, off, cap, rfl, h5, h6⟩
    · simp at hlt
    unfold maxLen at h6
    have hne : ((i : Int) == -1) = false := by simp
    unfold CallOk at hcf
    have Ht := hid (show (xs.take (i + 1)).filter (fun x => !test x) = xs.take i by rw [List.take_add_one, h1, List.filter_append, h4]; simp [h2])
    clear h1 h2 h4
    go_enter Try.func40, Try.ntmps40
    go_wp2_with (refine hi.mono ?_; rintro e w' ⟨v, rfl, rfl, hs'⟩)
    go_loopw [5, 6] (fun a c wr => ∃ p q : Nat, p < q ∧ q ≤ xs.length ∧ a = .int .i64 p ∧ c = .int .i64 q ∧ ∃ ys : List Value, ys.length = xs.length ∧ ys.take p = (xs.take q).filter (fun x => !test x) ∧ ys.drop q = xs.drop q ∧ SatL wr (Sl 54 (.slice (some ⟨b, off, none⟩) xs.length cap) ys :: l)) (fun _ c _ => xs.length - (intOf c).toNat)
    case atStart => exact ⟨i, i + 1, by omega, by omega, rfl, by go_num, xs, rfl, Ht.out.symm, rfl, hs'⟩
    case round =>
      obtain ⟨p, q, hpq, hq, rfl, rfl, ys, hy1, hy2, hy3, hs⟩ := hrel
      have Hy2 := hid hy2; have Hy3 := hid hy3; have Hy1 := hid hy1; clear hy2 hy3
      by_cases hlq : q < xs.length
      · have hx : xs[q]? = some xs[q] := List.getElem?_eq_getElem hlq
        have hyq : ys[q]? = some xs[q] := by
          have := congrArg (fun z => z[0]?) Hy3.out
          simpa [hx] using this
        have hc := Sl.cell hs hyq
        have hp : p < ys.length := by omega
        have hcp := Sl.cell hs (List.getElem?_eq_getElem hp)
        have hfp := Sl.free hs (off + p)
        have hmem : xs[q] ∈ xs := List.getElem_mem hlq
        have Htk := hid (show xs.take (q + 1) = xs.take q ++ [xs[q]] by rw [List.take_add_one, hx]; rfl)
        have Hdr := hid (show xs.drop (q + 1) = (xs.drop q).drop 1 by rw [List.drop_drop])
        obtain ⟨z, hz⟩ := hsh _ hmem
        generalize xs[q] = x at *
        clear hx hyq hy1
        subst hz
        go_wp2_with (refine (hf ys Hy1.out _ hmem _ hs).mono ?_; rintro e w' ⟨v, rfl, rfl, hs2⟩; have hcp := Sl.cell hs2 (List.getElem?_eq_getElem hp); have hfp := Sl.free hs2 (off + p))
        · rename_i ht
          have hs3 := Sl.set hs2 hp (Value.pointer z)
          have hl1 := Hy1.out
          simp only [Bool.not_eq_true'] at ht
          go_roundw
          case rel =>
            refine ⟨p + 1, q + 1, by omega, by omega, by go_num, by go_num, _, by simp [hl1], ?_, ?_, hs3⟩
            · rw [Htk.out, List.filter_append, ← Hy2.out, List.take_add_one, List.getElem?_set]; simp [ht, hp]; exact List.take_set_of_le (Nat.le_refl _)
            · rw [Hdr.out, ← Hy3.out, List.drop_drop, List.drop_set, if_pos (by omega)]
          case measure => simp [intOf]; omega
        · rename_i ht
          simp only [Bool.not_eq_false'] at ht
          go_roundw
          case rel => exact ⟨p, q + 1, by omega, by omega, rfl, by go_num, ys, Hy1.out, by rw [Hy2.out, Htk.out, List.filter_append]; simp [ht], by rw [Hdr.out, ← Hy3.out, List.drop_drop], hs2⟩
          case measure => simp [intOf]; omega
      · obtain rfl : q = xs.length := by omega
        have hl1 := Hy1.out
        have hpl : ¬ cap = p := by omega
        clear hy1
        go_wp2_with (refine wpList_clear_tail rfl (.tmp 38) rfl elem_ent hs (i := p) (by omega) rfl ?_; intro w5 hs5)
        go_ret
        refine Ret.mk ?_
        have hs6 := Sl.slice hs5 (i := 0) (j := p) (by omega) (by omega)
        have e1 : ((ys.take p ++ List.replicate (xs.length - p) (Value.pointer none)).take p).drop 0 = xs.filter (fun x => !test x) := by
          rw [List.drop_zero, List.take_append_of_le_length (by simp; omega), List.take_take, Nat.min_self, Hy2.out, List.take_length]
        rw [e1] at hs6
        exact hs6

end Go.Proofs.Ytlmjjfgnpcghgaa
