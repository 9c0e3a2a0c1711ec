/- The bytes of a log in which blocks stand; a group that was recorded is recovered; the plain law. No condition. -/
import Derived.Test.YtjjnadlklfegcaaWal
namespace Go.Proofs.Ytjjnadlklfegcaa
set_option linter.unusedVariables false
set_option linter.unusedSimpArgs false
open Go.RowKit

def overlay (b : List UInt8) (o : Nat) (d : List UInt8) : List UInt8 := b.take o ++ d ++ b.drop (o + d.length)
theorem overlay_len {b d : List UInt8} {o : Nat} (h : o + d.length ≤ b.length) : (overlay b o d).length = b.length := by
  unfold overlay; simp only [List.length_append, List.length_take, List.length_drop]; omega
theorem overlay_nil (b : List UInt8) (o : Nat) : overlay b o [] = b := by simp [overlay]
theorem overlay_get {b d : List UInt8} {o : Nat} (h : o + d.length ≤ b.length) (i : Nat) : (overlay b o d)[i]? = if o ≤ i ∧ i < o + d.length then d[i - o]? else b[i]? := by
  unfold overlay
  have ht : (b.take o).length = o := by rw [List.length_take]; omega
  by_cases h1 : i < o
  · rw [if_neg (by omega), List.append_assoc, List.getElem?_append_left (by omega), List.getElem?_take, if_pos h1]
  · by_cases h2 : i < o + d.length
    · rw [if_pos ⟨by omega, h2⟩, List.append_assoc, List.getElem?_append_right (by omega), ht, List.getElem?_append_left (by omega)]
    · rw [if_neg (by omega), List.getElem?_append_right (by rw [List.length_append, ht]; omega), List.length_append, ht, List.getElem?_drop]
      congr 1; omega
/-- one more byte -/
theorem overlay_set {b d : List UInt8} {o k : Nat} (h : o + d.length ≤ b.length) (hk : k < d.length) : (overlay b o (d.take k)).set (o + k) (d.getD k 0) = overlay b o (d.take (k + 1)) := by
  have hl : (d.take k).length = k := by rw [List.length_take]; omega
  have hl2 : (d.take (k + 1)).length = k + 1 := by rw [List.length_take]; omega
  apply List.ext_getElem?
  intro i
  rw [List.getElem?_set, overlay_get (by omega), overlay_get (by omega), hl, hl2, overlay_len (by omega)]
  by_cases hi : o + k = i
  · subst hi
    rw [if_pos rfl, if_pos (by omega), if_pos ⟨by omega, by omega⟩, Nat.add_sub_cancel_left, List.getElem?_take, if_pos (by omega), List.getElem?_eq_getElem hk]
    simp [List.getD, hk]
  · rw [if_neg hi]
    by_cases h1 : o ≤ i ∧ i < o + k
    · rw [if_pos h1, if_pos ⟨by omega, by omega⟩, List.getElem?_take, List.getElem?_take, if_pos (by omega), if_pos (by omega)]
    · rw [if_neg h1, if_neg (by omega)]

def layOn (b : List UInt8) (p : PD) : List UInt8 := if 0 ≤ p.1 ∧ p.1 < 66 then overlay b (512 * p.1.toNat) (p.2.take 512) else b
def logZ : List UInt8 := List.replicate 33792 0
def logB (l : List PD) : List UInt8 := l.foldl layOn logZ
theorem logZ_len : logZ.length = 33792 := by unfold logZ; rw [List.length_replicate]
theorem layOn_len {b : List UInt8} (h : b.length = 33792) (p : PD) : (layOn b p).length = 33792 := by
  unfold layOn
  split
  · rw [overlay_len]; exact h
    rw [List.length_take]; omega
  · exact h
theorem foldl_layOn_len : ∀ (l : List PD) {b : List UInt8}, b.length = 33792 → (l.foldl layOn b).length = 33792
  | [], _, h => h
  | p :: l, _, h => foldl_layOn_len l (layOn_len h p)
theorem logB_len (l : List PD) : (logB l).length = 33792 := foldl_layOn_len l logZ_len
theorem logB_snoc (l : List PD) (p : PD) : logB (l ++ [p]) = layOn (logB l) p := by simp [logB]

theorem rowAt_get {b : List UInt8} {r i : Nat} : (rowAt b r)[i]? = if i < 512 then b[512 * r + i]? else none := by
  rw [rowAt, List.getElem?_take, List.getElem?_drop]
theorem rowAt_layOn {b : List UInt8} (hb : b.length = 33792) {p : PD} (hp : p.2.length = 512) (h0 : 0 ≤ p.1 ∧ p.1 < 66) (r : Nat) : rowAt (layOn b p) r = if (r : Int) = p.1 then p.2 else rowAt b r := by
  obtain ⟨q, d⟩ := p
  obtain ⟨k, rfl⟩ : ∃ k : Nat, q = k := ⟨q.toNat, by simp only at h0; omega⟩
  simp only at hp h0
  have hk : k < 66 := by omega
  unfold layOn
  rw [if_pos ⟨by simp, by simp; omega⟩]
  simp only [Int.toNat_natCast]
  rw [List.take_of_length_le (by omega)]
  apply List.ext_getElem?
  intro i
  rw [rowAt_get, overlay_get (by rw [hp]; omega), hp]
  by_cases hi : i < 512
  · rw [if_pos hi]
    by_cases hr : r = k
    · subst hr
      rw [if_pos ⟨by omega, by omega⟩, if_pos rfl]
      congr 1; omega
    · rw [if_neg (by omega), if_neg (by omega), rowAt_get, if_pos hi]
  · rw [if_neg hi]
    by_cases hr : r = k
    · subst hr; rw [if_pos rfl, List.getElem?_eq_none (by omega)]
    · rw [if_neg (by omega), rowAt_get, if_neg hi]
theorem layOn_empty (b : List UInt8) {p : PD} (hp : p.2 = []) : layOn b p = b := by
  unfold layOn; rw [hp, List.take_nil, overlay_nil]; simp
/-- the last of a list that stands at a place -/
def lastAt (l : List PD) (r : Nat) : Option PD := l.reverse.find? fun p => p.1 == (r : Int)
theorem lastAt_snoc (l : List PD) (p : PD) (r : Nat) : lastAt (l ++ [p]) r = if p.1 = (r : Int) then some p else lastAt l r := by
  unfold lastAt
  rw [List.reverse_append, List.reverse_singleton, List.singleton_append, List.find?_cons]
  by_cases h : p.1 = (r : Int)
  · simp [h]
  · rw [if_neg h]
    have : (p.1 == (r : Int)) = false := by simpa using h
    rw [this]
def LogOk (l : List PD) : Prop := ∀ p ∈ l, p.2.length = 512 ∧ 0 ≤ p.1 ∧ p.1 < 66
theorem rowAt_log {r : Nat} (hr : r < 66) (l : List PD) (h : LogOk l) : rowAt (logB l) r = match lastAt l r with | some p => p.2 | none => List.replicate 512 0 := by
  generalize hn : l.length = n
  induction n generalizing l with
  | zero =>
    have : l = [] := List.eq_nil_of_length_eq_zero hn
    subst this
    show rowAt logZ r = List.replicate 512 0
    apply List.ext_getElem?
    intro i
    rw [rowAt_get]
    unfold logZ
    rw [List.getElem?_replicate, List.getElem?_replicate]
    by_cases hi : i < 512
    · rw [if_pos hi, if_pos (by omega), if_pos hi]
    · rw [if_neg hi, if_neg hi]
  | succ n ih =>
    obtain ⟨l', p, rfl⟩ : ∃ l' p, l = l' ++ [p] := ⟨l.dropLast, l.getLast (by intro e; rw [e] at hn; cases hn), (List.dropLast_concat_getLast _).symm⟩
    have hp := h p (by simp)
    rw [logB_snoc, rowAt_layOn (logB_len _) hp.1 hp.2, lastAt_snoc]
    by_cases hpr : (r : Int) = p.1
    · rw [if_pos hpr, if_pos hpr.symm]
    · rw [if_neg hpr, if_neg (fun e => hpr e.symm)]
      exact ih l' (fun q hq => h q (List.mem_append_left _ hq)) (by simpa using hn)

theorem lastAt_none {l : List PD} {r : Nat} (h : ∀ p ∈ l, p.1 ≠ (r : Int)) : lastAt l r = none := by
  unfold lastAt
  rw [List.find?_eq_none]
  intro p hp
  have := h p (List.mem_reverse.1 hp)
  simpa using this
theorem lastAt_append (a b : List PD) (r : Nat) : lastAt (a ++ b) r = (lastAt b r).or (lastAt a r) := by
  unfold lastAt; rw [List.reverse_append, List.find?_append]
theorem lastAt_mem {l : List PD} {r : Nat} {p : PD} (h : lastAt l r = some p) : p ∈ l ∧ p.1 = (r : Int) := by
  unfold lastAt at h
  exact ⟨List.mem_reverse.1 (List.mem_of_find?_eq_some h), by simpa using List.find?_some h⟩
theorem nodup_inj {l : List PD} (hn : (l.map (·.1)).Nodup) {p q : PD} (hp : p ∈ l) (hq : q ∈ l) (e : p.1 = q.1) : p = q := by
  induction l with
  | nil => simp at hp
  | cons x l ih =>
    rw [List.map_cons, List.nodup_cons] at hn
    rcases List.mem_cons.1 hp with rfl | hp2 <;> rcases List.mem_cons.1 hq with rfl | hq2
    · rfl
    · exact (hn.1 (List.mem_map.2 ⟨q, hq2, e.symm⟩)).elim
    · exact (hn.1 (List.mem_map.2 ⟨p, hp2, e⟩)).elim
    · exact ih hn.2 hp2 hq2
theorem lastAt_nodup {l : List PD} {r : Nat} {p : PD} (hn : (l.map (·.1)).Nodup) (hp : p ∈ l) (hr : p.1 = (r : Int)) : lastAt l r = some p := by
  cases h : lastAt l r with
  | none =>
    unfold lastAt at h
    rw [List.find?_eq_none] at h
    have := h p (List.mem_reverse.2 hp)
    simp [hr] at this
  | some q =>
    obtain ⟨hq, hqr⟩ := lastAt_mem h
    rw [nodup_inj hn hq hp (by rw [hr, hqr])]
end Go.Proofs.Ytjjnadlklfegcaa
