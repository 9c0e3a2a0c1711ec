/- Add: a chain is offered. What it does, in plain words. No condition beside the sizes that each names. -/
import Derived.Test.YtnniipeoahpkcaaVqE
namespace Go.Proofs.Ytnniipeoahpkcaa
set_option linter.unusedVariables false
set_option linter.unusedSimpArgs false
open Go.RowKit
def Bf.bad (b : Bf) : Bool := decide (b.addr < 0) || decide (b.len < 0) || decide (4294967295 < b.len)
/-- the free ones among the first -/
def freeIdx (busy : List Bool) (i : Nat) : List Nat := (List.range i).filter fun j => busy[j]? == some false
theorem freeIdx_snoc {busy : List Bool} {i : Nat} {b : Bool} (h : busy[i]? = some b) : freeIdx busy (i + 1) = freeIdx busy i ++ (if b then [] else [i]) := by
  unfold freeIdx
  rw [List.range_succ, List.filter_append]
  congr 1
  cases b <;> simp [h]
theorem freeIdx_len {busy : List Bool} : ∀ i, i ≤ busy.length → (freeIdx busy i).length = free (busy.take i)
  | 0, _ => rfl
  | i + 1, h => by
    have hb : busy[i]? = some busy[i] := List.getElem?_eq_getElem h
    rw [freeIdx_snoc hb, free_take hb, List.length_append, freeIdx_len i (by omega)]
    cases busy[i] <;> rfl
theorem freeIdx_le {busy : List Bool} {i : Nat} : (freeIdx busy i).length ≤ i := by
  unfold freeIdx; exact Nat.le_trans (List.length_filter_le _ _) (by simp)
theorem freeIdx_mem {busy : List Bool} {i j : Nat} (h : j ∈ freeIdx busy i) : j < i ∧ busy[j]? = some false := by
  unfold freeIdx at h
  obtain ⟨h1, h2⟩ := List.mem_filter.1 h
  exact ⟨List.mem_range.1 h1, by simpa using h2⟩
theorem freeIdx_pre {busy : List Bool} {i n : Nat} (h : i ≤ n) : freeIdx busy i = (freeIdx busy n).take (freeIdx busy i).length := by
  unfold freeIdx
  obtain ⟨k, rfl⟩ := Nat.exists_eq_add_of_le h
  rw [List.range_add, List.filter_append, List.take_append_of_le_length (Nat.le_refl _), List.take_length]
def chainOf (busy : List Bool) (k : Nat) : List Nat := (freeIdx busy busy.length).take k
theorem chainOf_len {busy : List Bool} {k : Nat} (h : k ≤ free busy) : (chainOf busy k).length = k := by
  unfold chainOf
  rw [List.length_take, freeIdx_len _ (Nat.le_refl _), List.take_length]; omega
theorem chainOf_lt {busy : List Bool} {k i : Nat} (h : i ∈ chainOf busy k) : i < busy.length := (freeIdx_mem (List.mem_of_mem_take h)).1
def flagOf (b : Bf) (more : Bool) : Nat := (if more then 1 else 0) + (if b.wr then 2 else 0)
/-- one descriptor -/
def descM (m : List UInt8) (base c : Nat) (b : Bf) (fl nx : Nat) : List UInt8 :=
  lset (lset (lset (lset m (base + 16 * c) 8 b.addr.toNat) (base + (16 * c + 8)) 4 b.len.toNat) (base + (16 * c + 12)) 2 fl) (base + (16 * c + 14)) 2 nx
/-- the first descriptors -/
def descs (base : Nat) (c : List Nat) (l : List Bf) (m : List UInt8) : Nat → List UInt8
  | 0 => m
  | j + 1 => descM (descs base c l m j) base (c.getD j 0) (l.getD j ⟨0, 0, false⟩) (flagOf (l.getD j ⟨0, 0, false⟩) (decide (j + 1 < l.length))) (if j + 1 < l.length then c.getD (j + 1) 0 else 0)
theorem descM_len {m : List UInt8} {base c n : Nat} {b : Bf} {fl nx : Nat} (hc : c < n) (hf : base + qs n ≤ m.length) : (descM m base c b fl nx).length = m.length := by
  have hq : qs n = 8 + 26 * n := rfl
  unfold descM
  have h1 : (lset m (base + 16 * c) 8 b.addr.toNat).length = m.length := lset_len (by omega)
  have h2 : (lset (lset m (base + 16 * c) 8 b.addr.toNat) (base + (16 * c + 8)) 4 b.len.toNat).length = m.length := by rw [lset_len (by omega), h1]
  have h3 : (lset (lset (lset m (base + 16 * c) 8 b.addr.toNat) (base + (16 * c + 8)) 4 b.len.toNat) (base + (16 * c + 12)) 2 fl).length = m.length := by rw [lset_len (by omega), h2]
  rw [lset_len (by omega), h3]
theorem descs_len {base n : Nat} {c : List Nat} {l : List Bf} {m : List UInt8} (hn : 0 < n) (hc : ∀ i ∈ c, i < n) (hf : base + qs n ≤ m.length) : ∀ j, (descs base c l m j).length = m.length
  | 0 => rfl
  | j + 1 => by
    have h1 := descs_len (l := l) hn hc hf j
    have h2 : c.getD j 0 < n := by
      rw [List.getD_eq_getElem?_getD]
      cases h : c[j]? with
      | none => exact hn
      | some x => exact hc x (List.mem_of_getElem? h)
    show (descM _ _ _ _ _ _).length = _
    rw [descM_len h2 (by rw [h1]; exact hf), h1]
def setbusy (busy : List Bool) (c : List Nat) : List Bool := c.foldl (fun b i => b.set i true) busy
theorem setbusy_len (c : List Nat) : ∀ busy, (setbusy busy c).length = busy.length := by
  induction c with
  | nil => intro b; rfl
  | cons i c ih => intro b; show (setbusy (b.set i true) c).length = _; rw [ih, List.length_set]
theorem setbusy_snoc (busy : List Bool) (c : List Nat) (i : Nat) : setbusy busy (c ++ [i]) = (setbusy busy c).set i true := by unfold setbusy; rw [List.foldl_append]; rfl
structure Addd where
  h : Nat
  e : Int
  d : Dr
  m : List UInt8
def Dr.put (d : Dr) (c : List Nat) : Dr := ⟨d.r.step, setbusy d.busy c, upo d.ch ((c.getD 0 0 : Nat) : Int) c⟩
def Dr.putM (d : Dr) (m : List UInt8) (c : List Nat) (l : List Bf) : List UInt8 :=
  lset (lset (descs d.r.base c l m l.length) (d.r.base + (16 * d.r.n + 4 + 2 * (d.r.off % d.r.n))) 2 (c.getD 0 0)) (d.r.base + (16 * d.r.n + 2)) 2 ((d.r.off + 1) % 65536)
def Dr.add (d : Dr) (m : List UInt8) (l : List Bf) : Addd :=
  if l.length = 0 ∨ l.any Bf.bad = true then ⟨0, 1, d, m⟩ else if free d.busy < l.length then ⟨0, 7, d, m⟩ else
    ⟨(chainOf d.busy l.length).getD 0 0, 0, d.put (chainOf d.busy l.length), d.putM m (chainOf d.busy l.length) l⟩
/-- pieces that can be read -/
def BRow (a : Option Addr) (l : List Bf) (w : World) : Prop :=
  l.length ≤ 9223372036854775807 ∧ (0 < l.length → ∃ b o, a = some ⟨b, o, none⟩ ∧ ∀ i x, l[i]? = some x → w.cell? ⟨b, o + i * 3, none⟩ = some (.int .i64 x.addr) ∧ w.cell? ⟨b, o + i * 3 + 1, none⟩ = some (.int .i64 x.len) ∧ w.cell? ⟨b, o + i * 3 + 2, none⟩ = some (.bool x.wr))
theorem BufR.brow {w : World} {L : List HP} {a : Option Addr} {n c : Nat} {l : List Bf} (h : SatL w (BufR (.slice a n c) l :: L)) : BRow a l w := by
  obtain ⟨a', c', e, h1, h2⟩ := SlK.valn h
  cases e
  refine ⟨by omega, fun h0 => ?_⟩
  rcases SlK.form h with ⟨e, h3, _⟩ | ⟨b, o, cc, e, _⟩
  · omega
  · cases e
    refine ⟨b, o, rfl, fun i x hx => ?_⟩
    obtain ⟨g1, g2, g3⟩ := bufV_get hx
    exact ⟨SlK.cell h g1, by have := SlK.cell h g2; rwa [← Nat.add_assoc] at this, by have := SlK.cell h g3; rwa [← Nat.add_assoc] at this⟩
end Go.Proofs.Ytnniipeoahpkcaa
