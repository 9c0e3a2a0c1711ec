/- What a world holds, said of blocks that are owned: resources, one beside the other. No condition. -/
import Derived.WalkKit
import Derived.WalkSpells
import Derived.WalkLawsBesides
namespace Go.Proofs.Ytklnlomleiebaaa
set_option linter.unusedVariables false
set_option linter.unusedSimpArgs false
open Go.RowKit

/-- What no block holds: the tape and the streams. -/
structure Env where
  tape : Nat → Question → Nat
  os : Os
  output : Array (Nat × ByteArray)

def envOf (w : World) : Env := ⟨w.tape, w.os, w.output⟩
abbrev PH := Nat → Option Obj
def HP := Env → PH → Prop

def PH.sub (h k : PH) : Prop := ∀ b o, h b = some o → k b = some o
def PH.apart (h k : PH) : Prop := ∀ b, h b = none ∨ k b = none

def Holds (e : Env) : List HP → PH → Prop
  | [], _ => True
  | P :: l, h => ∃ h1 h2 : PH, P e h1 ∧ Holds e l h2 ∧ PH.apart h1 h2 ∧ PH.sub h1 h ∧ PH.sub h2 h

def heapOf (w : World) : PH := fun b => w.heap[b]?
def SatL (w : World) (l : List HP) : Prop := Holds (envOf w) l (heapOf w)

def pt (b : Nat) (o : Obj) : HP := fun _ h => h = fun i => if i = b then some o else none
def pur (p : Prop) : HP := fun _ _ => p
def ex {α : Sort _} (f : α → HP) : HP := fun e h => ∃ a, f a e h
def sep (l : List HP) : HP := fun e h => Holds e l h
/-- a block of cells that may be written -/
def cl (b : Nat) (T : TypeId) (cs : Array Value) : HP := pt b (.cells cs T (0, 0))

theorem PH.sub.refl (h : PH) : PH.sub h h := fun _ _ x => x
theorem PH.sub.trans {a b c : PH} (h : PH.sub a b) (k : PH.sub b c) : PH.sub a c := fun x o y => k x o (h x o y)
theorem PH.apart.symm {a b : PH} (h : PH.apart a b) : PH.apart b a := fun x => (h x).symm
theorem PH.apart.mono {a b a' b' : PH} (h : PH.apart a b) (ha : PH.sub a' a) (hb : PH.sub b' b) : PH.apart a' b' := by
  intro x
  rcases h x with h | h
  · left
    cases hx : a' x with
    | none => rfl
    | some o => rw [ha x o hx] at h; cases h
  · right
    cases hx : b' x with
    | none => rfl
    | some o => rw [hb x o hx] at h; cases h

theorem Holds.weaken {e : Env} : ∀ {l : List HP} {h k : PH}, Holds e l h → PH.sub h k → Holds e l k
  | [], _, _, _, _ => trivial
  | _ :: _, _, _, ⟨h1, h2, a, b, c, d, f⟩, s => ⟨h1, h2, a, b, c, d.trans s, f.trans s⟩

theorem Holds.cons {e : Env} {P : HP} {l l' : List HP} {h : PH} (H : Holds e (P :: l) h) (k : ∀ h, Holds e l h → Holds e l' h) : Holds e (P :: l') h := by
  obtain ⟨h1, h2, a, b, c, d, f⟩ := H
  exact ⟨h1, h2, a, k _ b, c, d, f⟩

def PH.join (a b : PH) : PH := fun x => match a x with | some o => some o | none => b x
theorem PH.join_l (a b : PH) : PH.sub a (PH.join a b) := fun x o h => by simp [PH.join, h]
theorem PH.join_r {a b : PH} (h : PH.apart a b) : PH.sub b (PH.join a b) := fun x o k => by
  rcases h x with g | g
  · simp [PH.join, g, k]
  · rw [g] at k; cases k
theorem PH.join_sub {a b c : PH} (h : PH.sub a c) (k : PH.sub b c) : PH.sub (PH.join a b) c := fun x o g => by
  unfold PH.join at g
  cases ha : a x with
  | some y => rw [ha] at g; cases g; exact h x _ ha
  | none => rw [ha] at g; exact k x o g
theorem PH.join_apart {a b c : PH} (h : PH.apart a c) (k : PH.apart b c) : PH.apart (PH.join a b) c := fun x => by
  rcases h x with h | h
  · rcases k x with k | k
    · left; simp [PH.join, h, k]
    · exact .inr k
  · exact .inr h

theorem Holds.swap {e : Env} {P Q : HP} {l : List HP} {h : PH} (H : Holds e (P :: Q :: l) h) : Holds e (Q :: P :: l) h := by
  obtain ⟨h1, h2, a, ⟨h3, h4, b, c, d, f, g⟩, i, j, k⟩ := H
  have d1 : PH.apart h1 h3 := i.mono (PH.sub.refl _) f
  have d2 : PH.apart h1 h4 := i.mono (PH.sub.refl _) g
  exact ⟨h3, PH.join h1 h4, b, ⟨h1, h4, a, c, d2, PH.join_l _ _, PH.join_r d2⟩, (PH.join_apart d1 d.symm).symm, f.trans k, PH.join_sub j (g.trans k)⟩

theorem Holds.append {e : Env} : ∀ {l l' : List HP} {h : PH}, Holds e (sep l :: l') h ↔ Holds e (l ++ l') h
  | [], l', h => by
    constructor
    · rintro ⟨h1, h2, _, b, _, _, f⟩; exact b.weaken f
    · intro H; exact ⟨fun _ => none, h, trivial, H, fun x => .inl rfl, (fun x o y => by simp at y), PH.sub.refl _⟩
  | P :: l, l', h => by
    constructor
    · rintro ⟨h1, h2, ⟨h3, h4, a, b, c, d, f⟩, g, i, j, k⟩
      have i1 : PH.apart h3 h2 := i.mono d (PH.sub.refl _)
      have i2 : PH.apart h4 h2 := i.mono f (PH.sub.refl _)
      refine ⟨h3, PH.join h4 h2, a, Holds.append.1 ⟨h4, h2, b, g, i2, PH.join_l _ _, PH.join_r i2⟩, (PH.join_apart c.symm i1.symm).symm, d.trans j, PH.join_sub (f.trans j) k⟩
    · rintro ⟨h1, h2, a, b, c, d, f⟩
      obtain ⟨h3, h4, g, i, j, k, m⟩ := Holds.append.2 b
      have c1 : PH.apart h1 h3 := c.mono (PH.sub.refl _) k
      have c2 : PH.apart h1 h4 := c.mono (PH.sub.refl _) m
      exact ⟨PH.join h1 h3, h4, ⟨h1, h3, a, g, c1, PH.join_l _ _, PH.join_r c1⟩, i, PH.join_apart c2 j, PH.join_sub d (k.trans f), m.trans f⟩

/-- the n-th resource to the front -/
def pullL : Nat → List HP → List HP
  | 0, l => l
  | _ + 1, [] => []
  | n + 1, x :: l => match pullL n l with | [] => [x] | y :: k => y :: x :: k

theorem Holds.pull {e : Env} : ∀ (n : Nat) {l : List HP} {h : PH}, Holds e l h → Holds e (pullL n l) h
  | 0, _, _, H => H
  | _ + 1, [], _, _ => trivial
  | n + 1, x :: l, h, H => by
    have H2 : Holds e (x :: pullL n l) h := H.cons fun _ k => k.pull n
    show Holds e (match pullL n l with | [] => [x] | y :: k => y :: x :: k) h
    cases hp : pullL n l with
    | nil => rw [hp] at H2; exact H2
    | cons y k => rw [hp] at H2; exact H2.swap

theorem Holds.perm {e : Env} {l l' : List HP} (p : l.Perm l') : ∀ {h : PH}, Holds e l h → Holds e l' h := by
  induction p with
  | nil => exact fun H => H
  | cons x _ ih => exact fun H => H.cons fun _ k => ih k
  | swap x y l => exact fun H => H.swap
  | trans _ _ ih1 ih2 => exact fun H => ih2 (ih1 H)

section
variable {w : World} {l l' : List HP}

theorem SatL.perm (h : SatL w l) (p : l.Perm l') : SatL w l' := Holds.perm p h
theorem SatL.pull (h : SatL w l) (n : Nat) : SatL w (pullL n l) := Holds.pull n h
/-- these, by their places, to the front -/
def bringL : List Nat → List HP → List HP
  | [], l => l
  | i :: is, l => pullL (is.length + i - (is.filter (fun j => Nat.blt j i)).length) (bringL is l)
theorem SatL.bring (h : SatL w l) : ∀ is : List Nat, SatL w (bringL is l)
  | [] => h
  | _ :: is => Holds.pull _ (SatL.bring h is)
theorem SatL.swap {P Q : HP} (h : SatL w (P :: Q :: l)) : SatL w (Q :: P :: l) := Holds.swap h
theorem sat_sep : SatL w (sep l :: l') ↔ SatL w (l ++ l') := Holds.append
theorem sat_ex {α : Sort _} {f : α → HP} : SatL w (ex f :: l) ↔ ∃ a, SatL w (f a :: l) := by
  constructor
  · rintro ⟨h1, h2, ⟨a, k⟩, r⟩; exact ⟨a, h1, h2, k, r⟩
  · rintro ⟨a, h1, h2, k, r⟩; exact ⟨h1, h2, ⟨a, k⟩, r⟩
theorem sat_pur {p : Prop} : SatL w (pur p :: l) ↔ p ∧ SatL w l := by
  constructor
  · rintro ⟨h1, h2, k, a, _, _, b⟩; exact ⟨k, Holds.weaken a b⟩
  · rintro ⟨k, H⟩; exact ⟨fun _ => none, _, k, H, fun x => .inl rfl, (fun x o y => by simp at y), PH.sub.refl _⟩
theorem SatL.tail {P : HP} (h : SatL w (P :: l)) : SatL w l := by
  obtain ⟨h1, h2, _, a, _, _, b⟩ := h; exact Holds.weaken a b
theorem SatL.head_mono {P Q : HP} (h : SatL w (P :: l)) (k : ∀ e h, P e h → Q e h) : SatL w (Q :: l) := by
  obtain ⟨h1, h2, a, r⟩ := h; exact ⟨h1, h2, k _ _ a, r⟩
/-- a resource for each of a list -/
def big {α : Type} (f : α → HP) (xs : List α) : HP := sep (xs.map f)
theorem sat_under {P : HP} {k k' : List HP} (H : ∀ e h, Holds e k h ↔ Holds e k' h) : SatL w (P :: k) ↔ SatL w (P :: k') :=
  ⟨fun h => Holds.cons h fun _ q => (H _ _).1 q, fun h => Holds.cons h fun _ q => (H _ _).2 q⟩
theorem big_nil {α : Type} {f : α → HP} : SatL w (big f [] :: l) ↔ SatL w l := sat_sep
theorem big_cons {α : Type} {f : α → HP} {x : α} {xs : List α} : SatL w (big f (x :: xs) :: l) ↔ SatL w (f x :: big f xs :: l) := by
  unfold big
  rw [List.map_cons, sat_sep, List.cons_append]
  exact sat_under fun e h => Holds.append.symm
theorem big_perm {α : Type} {f : α → HP} {xs ys : List α} (p : xs.Perm ys) (h : SatL w (big f xs :: l)) : SatL w (big f ys :: l) := by
  unfold big at *
  rw [sat_sep] at *
  exact h.perm ((p.map f).append_right l)
theorem big_mid {α : Type} {f : α → HP} {x : α} {a b : List α} : SatL w (big f (a ++ x :: b) :: l) ↔ SatL w (f x :: big f (a ++ b) :: l) := by
  rw [← big_cons]
  exact ⟨big_perm List.perm_middle, big_perm List.perm_middle.symm⟩
theorem big_append {α : Type} {f : α → HP} {a b : List α} : SatL w (big f (a ++ b) :: l) ↔ SatL w (big f a :: big f b :: l) := by
  unfold big
  rw [List.map_append, sat_sep, sat_sep, List.append_assoc]
  constructor
  · intro h
    have h1 := h.perm (List.perm_append_comm)
    rw [List.append_assoc] at h1
    have h2 : SatL w (sep (b.map f) :: (l ++ a.map f)) := sat_sep.2 h1
    exact h2.perm ((List.Perm.cons _ List.perm_append_comm).trans List.perm_middle.symm)
  · intro h
    have h1 := h.perm List.perm_middle
    have h2 := (sat_sep.1 h1)
    have h3 := h2.perm (List.perm_append_comm)
    rw [List.append_assoc] at h3
    exact h3.perm ((List.Perm.append_left _ List.perm_append_comm))

theorem SatL.heap {b : Nat} {o : Obj} (h : SatL w (pt b o :: l)) : w.heap[b]? = some o := by
  obtain ⟨h1, h2, a, _, _, c, _⟩ := h
  exact c b o (by rw [a]; simp)
theorem SatL.lt {b : Nat} {o : Obj} (h : SatL w (pt b o :: l)) : b < w.heap.size := (Array.getElem?_eq_some_iff.1 h.heap).1
theorem SatL.ne {b c : Nat} {o o' : Obj} (h : SatL w (pt b o :: pt c o' :: l)) : b ≠ c := by
  obtain ⟨h1, h2, a, ⟨h3, h4, a2, _, _, c3, _⟩, c, _, _⟩ := h
  intro hb
  subst hb
  have := c3 b o' (by rw [a2]; simp)
  rcases c b with k | k
  · rw [a] at k; simp at k
  · rw [this] at k; cases k

/-- another world in which the blocks of these resources stand as they stood -/
theorem Holds.env_mono {e : Env} {h k : PH} (H : Holds e l h) (s : PH.sub h k) : Holds e l k := H.weaken s

theorem SatL.grow {w' : World} (h : SatL w l) (he : envOf w' = envOf w) (hb : ∀ (b : Nat) (o : Obj), w.heap[b]? = some o → w'.heap[b]? = some o) : SatL w' l := by
  unfold SatL at *
  rw [he]
  exact h.weaken hb

theorem envOf_alloc (o : Obj) : envOf (w.alloc o) = envOf w := rfl
theorem envOf_setCell (a : Addr) (v : Value) : envOf (w.setCell a v) = envOf w := rfl
theorem envOf_drew : envOf w.drew = envOf w := rfl
@[simp] theorem sat_drew : SatL w.drew l ↔ SatL w l := Iff.rfl

theorem SatL.alloc (h : SatL w l) (o : Obj) : SatL (w.alloc o) (pt w.heap.size o :: l) := by
  refine ⟨fun i => if i = w.heap.size then some o else none, heapOf w, rfl, h, ?_, ?_, ?_⟩
  · intro b
    by_cases hb : b = w.heap.size
    · right; subst hb; simp [heapOf]
    · left; simp [hb]
  · intro b p hp
    by_cases hb : b = w.heap.size
    · subst hb; simp at hp; subst hp; exact heap_alloc_new w o
    · simp [hb] at hp
  · intro b p hp
    have hp' : w.heap[b]? = some p := hp
    have := (Array.getElem?_eq_some_iff.1 hp').1
    simp only [heapOf, World.alloc, Array.getElem?_push]
    rw [if_neg (by omega)]; exact hp'

theorem SatL.allocN {n : Nat} (h : SatL w l) (o : Obj) (hn : n = w.heap.size) : SatL (w.alloc o) (pt n o :: l) := hn ▸ h.alloc o

/-- a block is written -/
theorem SatL.put {w' : World} {b : Nat} {o o' : Obj} (h : SatL w (pt b o :: l)) (he : envOf w' = envOf w) (hb : w'.heap[b]? = some o')
    (ho : ∀ c : Nat, c ≠ b → w'.heap[c]? = w.heap[c]?) : SatL w' (pt b o' :: l) := by
  obtain ⟨h1, h2, a, k, c, d, f⟩ := h
  unfold SatL
  rw [he]
  refine ⟨fun i => if i = b then some o' else none, h2, rfl, k, ?_, ?_, ?_⟩
  · intro x
    by_cases hx : x = b
    · right
      subst hx
      rcases c x with c | c
      · rw [a] at c; simp at c
      · exact c
    · left; simp [hx]
  · intro x p hp
    by_cases hx : x = b
    · subst hx; simp at hp; subst hp; exact hb
    · simp [hx] at hp
  · intro x p hp
    have hx : x ≠ b := by
      rintro rfl
      rcases c x with c | c
      · rw [a] at c; simp at c
      · rw [c] at hp; cases hp
    show w'.heap[x]? = some p
    rw [ho x hx]; exact f x p hp

theorem SatL.set {b i : Nat} {T : TypeId} {cs : Array Value} (h : SatL w (cl b T cs :: l)) (v : Value) : SatL (w.setCell ⟨b, i, none⟩ v) (cl b T (cs.setIfInBounds i v) :: l) := by
  refine SatL.put h rfl ?_ ?_
  · have := h.heap
    simp [World.setCell, Array.getElem?_modify, this]
  · intro c hc
    simp only [World.setCell, Array.getElem?_modify]
    rw [if_neg (by omega)]

theorem SatL.cell {b i : Nat} {T : TypeId} {cs : Array Value} {v : Value} (h : SatL w (cl b T cs :: l)) (hv : cs[i]? = some v) : w.cell? ⟨b, i, none⟩ = some v := by
  have := h.heap
  simp [World.cell?, this, hv]
theorem SatL.free {b : Nat} {T : TypeId} {cs : Array Value} (h : SatL w (cl b T cs :: l)) (i : Nat) : w.frozen? ⟨b, i, none⟩ = false := by
  have := h.heap
  simp [World.frozen?, this]
theorem SatL.shape {b : Nat} {T : TypeId} {cs : Array Value} (h : SatL w (cl b T cs :: l)) : w.shape? b = some (T, cs.size) := by
  have := h.heap
  simp [World.shape?, this]

/-- all that was there -/
def old (w0 : World) : HP := fun e h => e = envOf w0 ∧ h = heapOf w0
theorem sat_old (w0 : World) : SatL w0 [old w0] :=
  ⟨heapOf w0, fun _ => none, ⟨rfl, rfl⟩, trivial, fun _ => .inr rfl, PH.sub.refl _, fun _ _ h => by cases h⟩
theorem SatL.below {w0 : World} (h : SatL w (old w0 :: l)) : Below w0.heap.size w0 w := by
  obtain ⟨h1, h2, ⟨he, rfl⟩, _, _, c, _⟩ := h
  have e1 : envOf w = envOf w0 := he
  have hsz : w0.heap.size ≤ w.heap.size := by
    rcases Nat.eq_zero_or_pos w0.heap.size with hz | hz
    · omega
    · have hk : w0.heap[w0.heap.size - 1]? = some w0.heap[w0.heap.size - 1] := Array.getElem?_eq_getElem (by omega)
      have := c _ _ hk
      have := (Array.getElem?_eq_some_iff.1 this).1
      omega
  refine ⟨congrArg Env.os e1, congrArg Env.tape e1, congrArg Env.output e1, hsz, fun k hk => ?_⟩
  have hk2 : w0.heap[k]? = some w0.heap[k] := Array.getElem?_eq_getElem hk
  rw [hk2]; exact c _ _ hk2

/-- new blocks behind a callee that only makes -/
theorem SatL.below_mono {w' : World} (h : SatL w l) (hb : Below w.heap.size w w') : SatL w' l := by
  refine h.grow ?_ fun b o ho => ?_
  · simp only [envOf, hb.os, hb.tape, hb.output]
  · rw [hb.block b (Array.getElem?_eq_some_iff.1 ho).1]; exact ho
theorem SatL.below_new {w' : World} {b : Nat} {o : Obj} (h : SatL w l) (hb : Below w.heap.size w w') (hn : w.heap.size ≤ b) (ho : w'.heap[b]? = some o) : SatL w' (pt b o :: l) := by
  have hs : SatL w' l := h.below_mono hb
  have he : envOf w' = envOf w := by simp only [envOf, hb.os, hb.tape, hb.output]
  unfold SatL at *
  rw [he]
  refine ⟨fun i => if i = b then some o else none, heapOf w, rfl, h, ?_, ?_, ?_⟩
  · intro x
    by_cases hx : x = b
    · right; subst hx; exact Array.getElem?_eq_none hn
    · left; simp [hx]
  · intro x p hp
    by_cases hx : x = b
    · subst hx; simp at hp; subst hp; exact ho
    · simp [hx] at hp
  · intro x p hp
    have hp' : w.heap[x]? = some p := hp
    show w'.heap[x]? = some p
    rw [hb.block x (Array.getElem?_eq_some_iff.1 hp').1]; exact hp'
end

/-- how a call ends: it returns some value -/
def Ret (Q : Value → World → Prop) (e : Ending) (w : World) : Prop := ∃ v, e = .returned v ∧ Q v w
theorem Ret.mk {Q : Value → World → Prop} {v : Value} {w : World} (h : Q v w) : Ret Q (.returned v) w := ⟨v, rfl, h⟩

end Go.Proofs.Ytklnlomleiebaaa
