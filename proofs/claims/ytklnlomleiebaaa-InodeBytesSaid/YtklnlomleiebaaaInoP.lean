/- The plain side of chapter 10: rows of pointers, the ways to a block, what writing does to a volume. No program. No condition. -/
import Derived.Test.YtklnlomleiebaaaFilS
namespace Go.Proofs.Ytklnlomleiebaaa
set_option linter.unusedVariables false
set_option linter.unusedSimpArgs false
open Go.RowKit
/-- the j-th pointer of a block -/
def ptrN (d : List UInt8) (j : Nat) : Nat := leN ((d.drop (4 * j)).take 4)
def ptrsN (d : List UInt8) : List Nat := (List.range 128).map (ptrN d)
def rowB (l : List Nat) : List UInt8 := l.flatMap (lowb 4)
def setP (d : List UInt8) (j p : Nat) : List UInt8 := rowB ((ptrsN d).set j p)
theorem ptrN_lt (d : List UInt8) (j : Nat) : ptrN d j < 4294967296 := by
  have h := leN_lt ((d.drop (4 * j)).take 4)
  have h2 : ((d.drop (4 * j)).take 4).length ≤ 4 := by rw [List.length_take]; omega
  have h3 := Nat.pow_le_pow_right (n := 256) (by omega) h2
  unfold ptrN; omega
theorem ptrsN_len (d : List UInt8) : (ptrsN d).length = 128 := by simp [ptrsN]
theorem ptrsN_get (d : List UInt8) {j : Nat} (hj : j < 128) : (ptrsN d).getD j 0 = ptrN d j := by simp [ptrsN, List.getD, hj]
theorem ptrsN_lt (d : List UInt8) : ∀ p ∈ ptrsN d, p < 4294967296 := by
  intro p hp
  obtain ⟨j, _, rfl⟩ := List.mem_map.1 hp
  exact ptrN_lt d j
theorem rowB_cons (p : Nat) (l : List Nat) : rowB (p :: l) = lowb 4 p ++ rowB l := rfl
theorem rowB_snoc (l : List Nat) (p : Nat) : rowB (l ++ [p]) = rowB l ++ lowb 4 p := by simp [rowB]
theorem rowB_len (l : List Nat) : (rowB l).length = 4 * l.length := by
  induction l with
  | nil => rfl
  | cons p l ih => rw [rowB_cons, List.length_append, lowb_len, ih, List.length_cons]; omega
theorem ptrN_rowB : ∀ (l : List Nat) (j : Nat), j < l.length → (∀ p ∈ l, p < 4294967296) → ptrN (rowB l) j = l.getD j 0 := by
  intro l
  induction l with
  | nil => intro j hj; simp at hj
  | cons p l ih =>
    intro j hj h
    rw [rowB_cons]
    unfold ptrN at ih ⊢
    cases j with
    | zero =>
      rw [Nat.mul_zero, List.drop_zero, List.take_append_of_le_length (by rw [lowb_len]; omega), List.take_of_length_le (by rw [lowb_len]; omega), leN_lowb]
      have := h p (by simp)
      simp; omega
    | succ j =>
      rw [List.drop_append, List.drop_of_length_le (by rw [lowb_len]; omega), List.nil_append, lowb_len, show 4 * (j + 1) - 4 = 4 * j by omega, ih j (by simp at hj; omega) (fun p hp => h p (by simp [hp]))]
      simp
theorem setP_len (d : List UInt8) (j p : Nat) : (setP d j p).length = 512 := by
  rw [setP, rowB_len, List.length_set, ptrsN_len]
theorem ptrN_setP (d : List UInt8) {j p i : Nat} (hi : i < 128) (hp : p < 4294967296) : ptrN (setP d j p) i = if i = j then p else ptrN d i := by
  rw [setP, ptrN_rowB _ _ (by rw [List.length_set, ptrsN_len]; exact hi) (fun q hq => by
    rcases List.mem_or_eq_of_mem_set hq with h | rfl
    · exact ptrsN_lt d q h
    · exact hp)]
  by_cases e : i = j
  · subst e
    rw [if_pos rfl]
    simp [List.getD, ptrsN_len, hi]
  · rw [if_neg e, ← ptrsN_get d hi]
    simp [List.getD, List.getElem?_set_ne (Ne.symm e)]
theorem leN_zeros (n : Nat) : leN (List.replicate n 0) = 0 := by
  induction n with
  | zero => rfl
  | succ n ih => rw [List.replicate_succ, leN, ih]; rfl
theorem ptrN_zero (j : Nat) : ptrN zero512 j = 0 := by
  unfold ptrN zero512
  rw [List.drop_replicate, List.take_replicate, leN_zeros]
/-- which of an inode's pointers leads to a block, how many steps below it, and which one there -/
def wayN (k : Nat) : Nat × Nat × Nat := if k < 6 then (k, 0, 0) else if k < 134 then (6, 1, k - 6) else if k < 16518 then (7, 2, k - 134) else (8, 3, k - 16518)
theorem wayN_lt {k : Nat} (hk : k < 2113670) : (wayN k).1 < 9 ∧ (wayN k).2.1 ≤ 3 ∧ (wayN k).2.2 < 128 ^ (wayN k).2.1 ∧ (wayN k).2.1 = (wayN k).1 - 5 := by
  unfold wayN
  split
  · exact ⟨by simp; omega, by simp, by simp, by simp; omega⟩
  split
  · exact ⟨by simp, by simp, by simp; omega, by simp⟩
  split
  · exact ⟨by simp, by simp, by simp; omega, by simp⟩
  · exact ⟨by simp, by simp, by simp; omega, by simp⟩
/-- the lowest that is free -/
def lowF (U : Nat → Bool) (n : Nat) : Option Nat := (List.range n).find? fun j => !U j
theorem lowF_some {U : Nat → Bool} {n u : Nat} (h : lowF U n = some u) : u < n ∧ U u = false ∧ ∀ j, j < u → U j = true := by
  unfold lowF at h
  obtain ⟨h1, h2, h3⟩ := List.find?_range_eq_some.1 h
  refine ⟨by simpa using h2, by simpa using h1, fun j hj => by simpa using h3 j hj⟩
theorem lowF_none {U : Nat → Bool} {n : Nat} (h : lowF U n = none) : ∀ j, j < n → U j = true := by
  unfold lowF at h
  intro j hj
  have := List.find?_eq_none.1 h j (by simpa using hj)
  simpa using this
theorem lowF_of {U : Nat → Bool} {n u : Nat} (hu : u < n) (h : U u = false) (hm : ∀ j, j < u → U j = true) : lowF U n = some u := by
  unfold lowF
  refine List.find?_range_eq_some.2 ⟨by simpa using h, by simpa using hu, fun j hj => by simpa using hm j hj⟩
/-- the blocks ahead of a volume's files, and those behind its end, are taken -/
def Vs.Full (s : Vs) (b i : Nat) : Prop := (∀ j, j ≤ dataN b i → s.U j = true) ∧ ∀ j, b ≤ j → s.U j = true
/-- a pointer's block, taken and laid out with noughts where there is none -/
def dipS (n : Nat) (s : Vs) (p : Nat) : Option (Nat × Vs) := if p = 0 then (lowF s.U n).map fun u => (u, (s.take u).put u zero512) else some (p, s)
/-- down from a pointer to the k-th block d steps below it, taking what lacks: the pointer, that block -/
def fillS (n : Nat) : Nat → Vs → Nat → Nat → Option (Nat × Nat × Vs)
  | 0, s, p, _ => (dipS n s p).map fun q => (q.1, q.1, q.2)
  | d + 1, s, p, k => (dipS n s p).bind fun r =>
    (fillS n d r.2 (ptrN (r.2.D r.1) (k / 128 ^ d)) (k % 128 ^ d)).map fun q =>
      (r.1, q.2.1, if q.1 = ptrN (r.2.D r.1) (k / 128 ^ d) then q.2.2 else q.2.2.put r.1 (setP (r.2.D r.1) (k / 128 ^ d) q.1))
/-- each pointer on the way down is none, or one of a block behind the bitmaps -/
def OkP (s : Vs) (tb b : Nat) : Nat → Nat → Nat → Prop
  | 0, p, _ => p = 0 ∨ (tb ≤ p ∧ p < b)
  | d + 1, p, k => p = 0 ∨ ((tb ≤ p ∧ p < b) ∧ OkP s tb b d (ptrN (s.D p) (k / 128 ^ d)) (k % 128 ^ d))
theorem OkP.zero (s : Vs) (tb b d k : Nat) : OkP s tb b d 0 k := by cases d <;> exact .inl rfl
theorem OkP.root {s : Vs} {tb b d p k : Nat} (h : OkP s tb b d p k) : p = 0 ∨ (tb ≤ p ∧ p < b) := by
  cases d with
  | zero => exact h
  | succ d => exact h.imp id (·.1)
theorem Vs.Full.take {s : Vs} {b i : Nat} (h : s.Full b i) (u : Nat) : (s.take u).Full b i :=
  ⟨fun j hj => by show (s.U j || j == u) = true; rw [h.1 j hj]; rfl, fun j hj => by show (s.U j || j == u) = true; rw [h.2 j hj]; rfl⟩
theorem Vs.Full.put {s : Vs} {b i : Nat} (h : s.Full b i) (k : Nat) (d : List UInt8) : (s.put k d).Full b i := h
theorem Vs.Full.low {s : Vs} {b i n u : Nat} (h : s.Full b i) (hu : lowF s.U n = some u) : dataN b i < u ∧ u < b := by
  obtain ⟨_, h1, _⟩ := lowF_some hu
  constructor
  · exact Nat.lt_of_not_le fun e => by rw [h.1 u e] at h1; cases h1
  · exact Nat.lt_of_not_le fun e => by rw [h.2 u e] at h1; cases h1
theorem Vs.put_D (s : Vs) (k : Nat) (d : List UInt8) : (s.put k d).D k = d := if_pos rfl
theorem Vs.put_D_ne (s : Vs) {k j : Nat} (d : List UInt8) (h : j ≠ k) : (s.put k d).D j = s.D j := if_neg h
theorem dipS_ok {n p' tb b i : Nat} {s s' : Vs} {p : Nat} (hF : s.Full b i) (hn : 1 ≤ tb ∧ tb ≤ dataN b i) (hp : p = 0 ∨ (tb ≤ p ∧ p < b)) (h : dipS n s p = some (p', s')) :
    tb ≤ p' ∧ p' < b ∧ p' ≠ 0 ∧ s'.Full b i ∧ (p = 0 → s'.D p' = zero512) ∧ (p ≠ 0 → p' = p ∧ s' = s) := by
  unfold dipS at h
  by_cases e : p = 0
  · rw [if_pos e] at h
    obtain ⟨u, hu, hh⟩ := Option.map_eq_some_iff.1 h
    obtain ⟨rfl, rfl⟩ := Prod.mk.inj hh
    have := hF.low hu
    exact ⟨by omega, by omega, by omega, (hF.take u).put u _, fun _ => Vs.put_D .., fun h => absurd e h⟩
  · rw [if_neg e] at h
    obtain ⟨rfl, rfl⟩ := Prod.mk.inj (Option.some.inj h)
    exact ⟨by omega, by omega, e, hF, fun h => absurd h e, fun _ => ⟨rfl, rfl⟩⟩
theorem OkP.dip {n p' tb b i d k : Nat} {s s' : Vs} {p : Nat} (hF : s.Full b i) (hn : 1 ≤ tb ∧ tb ≤ dataN b i) (hp : OkP s tb b (d + 1) p k) (h : dipS n s p = some (p', s')) : OkP s' tb b d (ptrN (s'.D p') (k / 128 ^ d)) (k % 128 ^ d) := by
  obtain ⟨h1, h2, h3, h4, h5, h6⟩ := dipS_ok hF hn hp.root h
  rcases hp with e | ⟨_, hp⟩
  · rw [h5 e, ptrN_zero]; exact OkP.zero ..
  · obtain ⟨rfl, rfl⟩ := h6 (by omega)
    exact hp
theorem fillS_zero {n : Nat} {s s' : Vs} {p k p' t : Nat} (h : fillS n 0 s p k = some (p', t, s')) : dipS n s p = some (p', s') ∧ t = p' := by
  rw [fillS] at h
  cases hd : dipS n s p with
  | none => rw [hd] at h; cases h
  | some r =>
    rw [hd] at h
    simp only [Option.map_some, Option.some.injEq, Prod.mk.injEq] at h
    obtain ⟨h1, h2, h3⟩ := h
    subst h1 h2 h3
    exact ⟨rfl, rfl⟩
theorem fillS_succ {n d : Nat} {s s' : Vs} {p k p' t : Nat} (h : fillS n (d + 1) s p k = some (p', t, s')) :
    ∃ s1 q s2, dipS n s p = some (p', s1) ∧ fillS n d s1 (ptrN (s1.D p') (k / 128 ^ d)) (k % 128 ^ d) = some (q, t, s2) ∧ s' = if q = ptrN (s1.D p') (k / 128 ^ d) then s2 else s2.put p' (setP (s1.D p') (k / 128 ^ d) q) := by
  rw [fillS] at h
  cases hd : dipS n s p with
  | none => rw [hd] at h; cases h
  | some r =>
    rw [hd] at h
    simp only [Option.bind_some] at h
    cases hf : fillS n d r.2 (ptrN (r.2.D r.1) (k / 128 ^ d)) (k % 128 ^ d) with
    | none => rw [hf] at h; cases h
    | some q =>
      rw [hf] at h
      simp only [Option.map_some, Option.some.injEq, Prod.mk.injEq] at h
      obtain ⟨h1, h2, h3⟩ := h
      subst h1 h2
      exact ⟨r.2, q.1, q.2.2, rfl, hf, h3.symm⟩
theorem fillS_ok {n tb b i : Nat} (hn : 1 ≤ tb ∧ tb ≤ dataN b i) : ∀ (d : Nat) {s s' : Vs} {p k p' t : Nat}, s.Full b i → OkP s tb b d p k → fillS n d s p k = some (p', t, s') →
    (tb ≤ p' ∧ p' < b) ∧ (tb ≤ t ∧ t < b) ∧ s'.Full b i
  | 0, s, s', p, k, p', t, hF, hp, h => by
    obtain ⟨hq, rfl⟩ := fillS_zero h
    obtain ⟨h1, h2, h3, h4, _⟩ := dipS_ok hF hn hp hq
    exact ⟨⟨h1, h2⟩, ⟨h1, h2⟩, h4⟩
  | d + 1, s, s', p, k, p', t, hF, hp, h => by
    obtain ⟨s1, q, s2, hq, hq2, rfl⟩ := fillS_succ h
    obtain ⟨h1, h2, h3, h4, _⟩ := dipS_ok hF hn hp.root hq
    obtain ⟨g1, g2, g3⟩ := fillS_ok hn d h4 (hp.dip hF hn hq) hq2
    refine ⟨⟨h1, h2⟩, g2, ?_⟩
    split
    · exact g3
    · exact g3.put ..
/-- d's bytes from off on turned to these -/
def patch (d : List UInt8) (off : Nat) (x : List UInt8) : List UInt8 := d.take off ++ x ++ d.drop (off + x.length)
theorem patch_len {d x : List UInt8} {off : Nat} (h : off + x.length ≤ d.length) : (patch d off x).length = d.length := by
  simp [patch]; omega
/-- writing: over a file's pointers and its size; m: no fewer than the bytes -/
def writeS (n : Nat) : Nat → Vs → List Nat → Nat → Nat → List UInt8 → Option (List Nat × Nat × Vs)
  | 0, s, P, z, _, _ => some (P, z, s)
  | m + 1, s, P, z, at_, data => if data = [] then some (P, z, s) else
    (fillS n (wayN (at_ / 512)).2.1 s (P.getD (wayN (at_ / 512)).1 0) (wayN (at_ / 512)).2.2).bind fun r =>
      writeS n m (r.2.2.put r.2.1 (patch (r.2.2.D r.2.1) (at_ % 512) (data.take (512 - at_ % 512)))) (P.set (wayN (at_ / 512)).1 r.1)
        (max z (at_ + min data.length (512 - at_ % 512))) (at_ + min data.length (512 - at_ % 512)) (data.drop (512 - at_ % 512))
/-- the way down that each round of writing takes is good -/
def OkW (n tb b : Nat) : Nat → Vs → List Nat → Nat → List UInt8 → Prop
  | 0, _, _, _, _ => True
  | m + 1, s, P, at_, data => data = [] ∨
    (OkP s tb b (wayN (at_ / 512)).2.1 (P.getD (wayN (at_ / 512)).1 0) (wayN (at_ / 512)).2.2 ∧
      ∀ p t s', fillS n (wayN (at_ / 512)).2.1 s (P.getD (wayN (at_ / 512)).1 0) (wayN (at_ / 512)).2.2 = some (p, t, s') →
        OkW n tb b m (s'.put t (patch (s'.D t) (at_ % 512) (data.take (512 - at_ % 512)))) (P.set (wayN (at_ / 512)).1 p) (at_ + min data.length (512 - at_ % 512)) (data.drop (512 - at_ % 512)))
end Go.Proofs.Ytklnlomleiebaaa
