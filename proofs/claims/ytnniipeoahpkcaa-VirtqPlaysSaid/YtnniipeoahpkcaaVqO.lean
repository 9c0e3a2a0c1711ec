/- Chains that are under way, each whole, in the order in which they were offered: in plain words. -/
import Derived.Test.YtnniipeoahpkcaaVqM
namespace Go.Proofs.Ytnniipeoahpkcaa
set_option linter.unusedVariables false
set_option linter.unusedSimpArgs false
/-- the pieces of a chain that begins with number s -/
def bufOf (s j : Nat) : Bf := ⟨(s + j : Nat), (j : Nat), decide (j % 2 = 1)⟩
def bufsOf (s k : Nat) : List Bf := (List.range k).map (bufOf s)
theorem bufsOf_len (s k : Nat) : (bufsOf s k).length = k := by simp [bufsOf]
theorem bufsOf_get {s k j : Nat} (h : j < k) : (bufsOf s k)[j]? = some (bufOf s j) := by simp [bufsOf, h]
theorem bufsOf_good (s k : Nat) (hk : k ≤ 4294967295) : (bufsOf s k).any Bf.bad = false := by
  rw [List.any_eq_false]
  intro x hx
  obtain ⟨j, hj, rfl⟩ := List.mem_map.1 hx
  have := List.mem_range.1 hj
  have h1 : decide (((s + j : Nat) : Int) < 0) = false := decide_eq_false (by omega)
  have h2 : decide (((j : Nat) : Int) < 0) = false := decide_eq_false (by omega)
  have h3 : decide ((4294967295 : Int) < ((j : Nat) : Int)) = false := decide_eq_false (by omega)
  show ¬ (decide (((s + j : Nat) : Int) < 0) || decide (((j : Nat) : Int) < 0) || decide ((4294967295 : Int) < ((j : Nat) : Int))) = true
  rw [h1, h2, h3]; decide
structure Ent where
  c : List Nat
  s : Nat
def Ent.head (e : Ent) : Nat := e.c.getD 0 0
def flagJ (j k : Nat) : Nat := (if j + 1 < k then 1 else 0) + (if j % 2 = 1 then 2 else 0)
/-- a descriptor that stands as it was laid -/
structure Desc (m : List UInt8) (i s j k nx : Nat) : Prop where
  a : lget m (16 * i) 8 = s + j
  l : lget m (16 * i + 8) 4 = j
  f : lget m (16 * i + 12) 2 = flagJ j k
  x : lget m (16 * i + 14) 2 = nx
def nxOf (c : List Nat) (j : Nat) : Nat := if j + 1 < c.length then c.getD (j + 1) 0 else 0
/-- what lies outside of the descriptors that are written stays -/
theorem descs_off {n : Nat} {c : List Nat} {l : List Bf} {m : List UInt8} (hn : 0 < n) (hc : ∀ i ∈ c, i < n) (hf : qs n ≤ m.length) (hcl : c.length = l.length) {a t : Nat} (hd : ∀ i ∈ c, a + t ≤ 16 * i ∨ 16 * i + 16 ≤ a) : ∀ J, J ≤ c.length → lget (descs 0 c l m J) a t = lget m a t
  | 0, _ => rfl
  | J + 1, hJ => by
    have hlen := descs_len (base := 0) (l := l) hn hc (by omega : 0 + qs n ≤ m.length) J
    have hq : qs n = 8 + 26 * n := rfl
    have hget : c.getD J 0 = c[J] := by rw [List.getD_eq_getElem?_getD, List.getElem?_eq_getElem hJ]; rfl
    have hm : c[J] ∈ c := List.getElem_mem hJ
    have h1 := hc _ hm
    have h2 := hd _ hm
    show lget (descM _ _ _ _ _ _) a t = _
    rw [hget]
    unfold descM
    generalize c[J] = i at *
    rw [lget_off (by rw [lset_len (by rw [lset_len (by rw [lset_len (by omega)]; omega), lset_len (by omega)]; omega), lset_len (by rw [lset_len (by omega)]; omega), lset_len (by omega)]; omega) (by omega),
      lget_off (by rw [lset_len (by rw [lset_len (by omega)]; omega), lset_len (by omega)]; omega) (by omega), lget_off (by rw [lset_len (by omega)]; omega) (by omega), lget_off (by omega) (by omega)]
    exact descs_off hn hc hf hcl hd J (by omega)
theorem descM_says {n : Nat} {m : List UInt8} {i fl nx : Nat} {b : Bf} (hi : i < n) (hf : qs n ≤ m.length) (hb1 : b.addr.toNat < 256 ^ 8) (hb2 : b.len.toNat < 256 ^ 4) (hfl : fl < 65536) (hnx : nx < 65536) :
    lget (descM m 0 i b fl nx) (16 * i) 8 = b.addr.toNat ∧ lget (descM m 0 i b fl nx) (16 * i + 8) 4 = b.len.toNat ∧ lget (descM m 0 i b fl nx) (16 * i + 12) 2 = fl ∧ lget (descM m 0 i b fl nx) (16 * i + 14) 2 = nx := by
  have hq : qs n = 8 + 26 * n := rfl
  unfold descM
  simp only [Nat.zero_add]
  have l1 : (lset m (16 * i) 8 b.addr.toNat).length = m.length := lset_len (by omega)
  have l2 : (lset (lset m (16 * i) 8 b.addr.toNat) (16 * i + 8) 4 b.len.toNat).length = m.length := by rw [lset_len (by omega), l1]
  have l3 : (lset (lset (lset m (16 * i) 8 b.addr.toNat) (16 * i + 8) 4 b.len.toNat) (16 * i + 12) 2 fl).length = m.length := by rw [lset_len (by omega), l2]
  refine ⟨?_, ?_, ?_, ?_⟩
  · rw [lget_off (by omega) (by omega), lget_off (by omega) (by omega), lget_off (by omega) (by omega), lget_lset (by omega) hb1]
  · rw [lget_off (by omega) (by omega), lget_off (by omega) (by omega), lget_lset (by omega) hb2]
  · rw [lget_off (by omega) (by omega), lget_lset (by omega) hfl]
  · rw [lget_lset (by omega) hnx]
theorem flagOf_buf (s j k : Nat) : flagOf (bufOf s j) (decide (j + 1 < k)) = flagJ j k := by
  unfold flagOf flagJ bufOf; simp
theorem flagJ_lt (j k : Nat) : flagJ j k < 4 := by unfold flagJ; split <;> split <;> omega
/-- each descriptor of the chain stands once all are written -/
theorem descs_says {n s : Nat} {c : List Nat} {m : List UInt8} (hn : 0 < n ∧ n ≤ 256) (hc : ∀ i ∈ c, i < n) (hnd : c.Nodup) (hf : qs n ≤ m.length) (hs : s + c.length ≤ 1000000) : ∀ J, J ≤ c.length → ∀ j i, j < J → c[j]? = some i → Desc (descs 0 c (bufsOf s c.length) m J) i s j c.length (nxOf c j)
  | 0, _, j, i, hj, _ => by omega
  | J + 1, hJ, j, i, hj, hi => by
    have hlen := descs_len (base := 0) (l := bufsOf s c.length) hn.1 hc (by omega : 0 + qs n ≤ m.length) J
    have hq : qs n = 8 + 26 * n := rfl
    have hcJ : c[J]? = some c[J] := List.getElem?_eq_getElem hJ
    have hget : c.getD J 0 = c[J] := by rw [List.getD_eq_getElem?_getD, hcJ]; rfl
    have hbg : (bufsOf s c.length).getD J ⟨0, 0, false⟩ = bufOf s J := by rw [List.getD_eq_getElem?_getD, bufsOf_get hJ]; rfl
    have hlt := hc _ (List.getElem_mem hJ)
    have hnxb : nxOf c J < 65536 := by
      unfold nxOf; split
      · rename_i h
        rw [List.getD_eq_getElem?_getD, List.getElem?_eq_getElem h]
        have := hc _ (List.getElem_mem h); simp; omega
      · omega
    have e : descs 0 c (bufsOf s c.length) m (J + 1) = descM (descs 0 c (bufsOf s c.length) m J) 0 c[J] (bufOf s J) (flagJ J c.length) (nxOf c J) := by
      show descM _ _ _ _ _ _ = _
      rw [hget, hbg, bufsOf_len, flagOf_buf]; rfl
    rw [e]
    by_cases hjJ : j = J
    · subst hjJ
      have hic : c[j] = i := by rw [hcJ] at hi; injection hi
      rw [hic] at hlt ⊢
      obtain ⟨g1, g2, g3, g4⟩ := descM_says (m := descs 0 c (bufsOf s c.length) m j) (fl := flagJ j c.length) (nx := nxOf c j) (b := bufOf s j) hlt (by rw [hlen]; exact hf) (by show (((s + j : Nat) : Int)).toNat < _; rw [Int.toNat_natCast]; omega) (by show ((j : Int)).toNat < _; rw [Int.toNat_natCast]; omega) (by have := flagJ_lt j c.length; omega) hnxb
      exact ⟨by rw [g1]; exact Int.toNat_natCast _, by rw [g2]; exact Int.toNat_natCast _, g3, g4⟩
    · have ih := descs_says hn hc hnd hf hs J (by omega) j i (by omega) hi
      have hne : i ≠ c[J] := by
        intro h
        have := (List.getElem?_inj (by omega : j < c.length) hnd (j := J)).1 (by rw [hi, hcJ, h])
        exact hjJ this
      have hil := hc i (List.mem_of_getElem? hi)
      have off : ∀ a t, 16 * i ≤ a → a + t ≤ 16 * i + 16 → lget (descM (descs 0 c (bufsOf s c.length) m J) 0 c[J] (bufOf s J) (flagJ J c.length) (nxOf c J)) a t = lget (descs 0 c (bufsOf s c.length) m J) a t := by
        intro a t h1 h2
        have hd : a + t ≤ 16 * c[J] ∨ 16 * c[J] + 16 ≤ a := by omega
        unfold descM
        simp only [Nat.zero_add]
        generalize c[J] = z at *
        rw [lget_off (by rw [lset_len (by rw [lset_len (by rw [lset_len (by omega)]; omega), lset_len (by omega)]; omega), lset_len (by rw [lset_len (by omega)]; omega), lset_len (by omega)]; omega) (by omega),
          lget_off (by rw [lset_len (by rw [lset_len (by omega)]; omega), lset_len (by omega)]; omega) (by omega), lget_off (by rw [lset_len (by omega)]; omega) (by omega), lget_off (by omega) (by omega)]
      obtain ⟨i1, i2, i3, i4⟩ := ih
      exact ⟨by rw [off _ _ (by omega) (by omega)]; exact i1, by rw [off _ _ (by omega) (by omega)]; exact i2, by rw [off _ _ (by omega) (by omega)]; exact i3, by rw [off _ _ (by omega) (by omega)]; exact i4⟩
end Go.Proofs.Ytnniipeoahpkcaa
