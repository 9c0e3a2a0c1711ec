/- The chain that comes first goes through; and what a queue says in which none is under way: in plain words. -/
import Derived.Test.YtnniipeoahpkcaaVqP
namespace Go.Proofs.Ytnniipeoahpkcaa
set_option linter.unusedVariables false
set_option linter.unusedSimpArgs false
theorem flagJ_says (j k : Nat) : (flagJ j k % 2 = 0 ↔ ¬ j + 1 < k) ∧ (flagJ j k / 2 % 2 = 1 ↔ j % 2 = 1) := by
  unfold flagJ
  split <;> split <;> constructor <;> omega
theorem bufsOf_snoc (s j : Nat) : bufsOf s (j + 1) = bufsOf s j ++ [bufOf s j] := by
  unfold bufsOf; rw [List.range_succ, List.map_append]; rfl
section
variable {n cn : Nat} {d : Dr} {r : Ring} {m : List UInt8} {Q : List Ent} {e : Ent}
theorem takeL_chain {c : List Nat} {s : Nat} (hs : s + c.length ≤ 1000000) (hc : ∀ i ∈ c, i < n) (hd : ∀ j i, c[j]? = some i → Desc m i s j c.length (nxOf c j)) :
    ∀ t j i, j + t + 1 = c.length → c[j]? = some i → ∀ f, t < f → takeL m 0 n f i (bufsOf s j) = some (bufsOf s c.length) := by
  intro t
  induction t with
  | zero =>
    intro j i hj hi f hf
    obtain ⟨f, rfl⟩ : ∃ g, f = g + 1 := ⟨f - 1, by omega⟩
    have hin := hc i (List.mem_of_getElem? hi)
    obtain ⟨d1, d2, d3, d4⟩ := hd j i hi
    obtain ⟨f1, f2⟩ := flagJ_says j c.length
    unfold takeL
    simp only [Nat.zero_add]
    rw [if_neg (by omega), d1, if_neg (by omega), d3, if_pos (f1.2 (by omega)), d2, ← hj, bufsOf_snoc]
    congr 3
    show (⟨((s + j : Nat) : Int), (j : Int), decide _⟩ : Bf) = ⟨_, _, _⟩
    congr 1
    simp only [Nat.add_zero] at hj
    rw [hj] at *
    simp [f2]
  | succ t ih =>
    intro j i hj hi f hf
    obtain ⟨f, rfl⟩ : ∃ g, f = g + 1 := ⟨f - 1, by omega⟩
    have hin := hc i (List.mem_of_getElem? hi)
    obtain ⟨d1, d2, d3, d4⟩ := hd j i hi
    obtain ⟨f1, f2⟩ := flagJ_says j c.length
    have hb : (⟨((s + j : Nat) : Int), ((j : Nat) : Int), decide (flagJ j c.length / 2 % 2 = 1)⟩ : Bf) = bufOf s j := by
      unfold bufOf; congr 1; simp [f2]
    have hnx : c[j + 1]? = some (nxOf c j) := by
      unfold nxOf
      rw [if_pos (by omega), List.getD_eq_getElem?_getD, List.getElem?_eq_getElem (by omega)]; rfl
    unfold takeL
    simp only [Nat.zero_add]
    rw [if_neg (by omega), d1, if_neg (by omega), d3, if_neg (by rw [f1]; omega), d2, d4, hb, ← bufsOf_snoc]
    exact ih (j + 1) _ (by omega) hnx f (by omega)
theorem take_front (hp : pow2 n = true) (h : OInv n d r m (e :: Q) cn) (hs : e.s + e.c.length ≤ 1000000) :
    r.take m = (⟨e.head, bufsOf e.s e.c.length, 0⟩, ⟨0, n, (cn + 1) % 65536, cn % 65536⟩) := by
  have hn := pow2_le hp
  have hfr := h.free
  have hQl := flat_len h.ne
  rw [List.length_cons] at hQl
  have hne := h.ne e List.mem_cons_self
  have hlen := List.length_pos_iff.2 hne
  have hkn : e.c.length ≤ n := by
    have : (flat (e :: Q)).length = e.c.length + (flat Q).length := by unfold flat; rw [List.flatMap_cons, List.length_append]
    omega
  have hav : lget m (16 * n + 4 + 2 * (cn % 65536 % n)) 2 = e.head := h.av 0 e rfl
  have hg1 := h.g1
  rw [List.length_cons] at hg1
  rw [h.rr]
  unfold Ring.take Ring.headAt Ring.step
  simp only [Nat.zero_add]
  rw [hg1, if_neg (by omega), hav]
  have hc0 : e.c[0]? = some e.head := by
    unfold Ent.head; rw [List.getD_eq_getElem?_getD, List.getElem?_eq_getElem hlen]; rfl
  have ht := takeL_chain (n := n) (m := m) (s := e.s) (c := e.c) hs (fun i hi => h.lt i (mem_flat.2 ⟨e, List.mem_cons_self, hi⟩)) (h.ds e List.mem_cons_self) (e.c.length - 1) 0 e.head (by omega) hc0 n (by omega)
  rw [show bufsOf e.s 0 = [] from rfl] at ht
  rw [ht]
  simp only
  congr 2; omega
theorem drain_inv (hp : pow2 n = true) (h : OInv n d r m (e :: Q) cn) (hs : e.s + e.c.length ≤ 1000000) :
    (⟨0, n, (cn + 1) % 65536, cn % 65536⟩ : Ring).give m e.head e.c.length = ⟨0, ((⟨0, n, (cn + 1) % 65536, cn % 65536⟩ : Ring).give m e.head e.c.length).m, ⟨0, n, (cn + 1) % 65536, (cn + 1) % 65536⟩⟩ ∧
    (d.used ((⟨0, n, (cn + 1) % 65536, cn % 65536⟩ : Ring).give m e.head e.c.length).m).h = e.head ∧ (d.used ((⟨0, n, (cn + 1) % 65536, cn % 65536⟩ : Ring).give m e.head e.c.length).m).l = e.c.length ∧ (d.used ((⟨0, n, (cn + 1) % 65536, cn % 65536⟩ : Ring).give m e.head e.c.length).m).e = 0 ∧
    OInv n (d.used ((⟨0, n, (cn + 1) % 65536, cn % 65536⟩ : Ring).give m e.head e.c.length).m).d ⟨0, n, (cn + 1) % 65536, (cn + 1) % 65536⟩ ((⟨0, n, (cn + 1) % 65536, cn % 65536⟩ : Ring).give m e.head e.c.length).m Q (cn + 1) := by
  have hn := pow2_le hp
  have hq : qs n = 8 + 26 * n := rfl
  have hfl : flat (e :: Q) = e.c ++ flat Q := by unfold flat; rw [List.flatMap_cons]
  have hne := h.ne e List.mem_cons_self
  have hhm := head_mem hne
  have hhn := h.lt e.head (mem_flat.2 ⟨e, List.mem_cons_self, hhm⟩)
  have hnd := h.nd
  rw [hfl] at hnd
  have hnd2 := List.nodup_append.1 hnd
  have hml := h.ml
  have hsl : cn % 65536 % n < n := Nat.mod_lt _ (by omega)
  have hu1 : (cn % 65536 + 1) % 65536 = (cn + 1) % 65536 := by omega
  have hgv : (⟨0, n, (cn + 1) % 65536, cn % 65536⟩ : Ring).give m e.head e.c.length = ⟨0, lset (lset (lset m (18 * n + 4 + 4 + 8 * (cn % 65536 % n)) 4 e.head) (18 * n + 4 + 4 + 8 * (cn % 65536 % n) + 4) 4 e.c.length) (18 * n + 4 + 2) 2 ((cn + 1) % 65536), ⟨0, n, (cn + 1) % 65536, (cn + 1) % 65536⟩⟩ := by
    unfold Ring.give
    rw [if_neg (by simp only; omega)]
    unfold Ring.giveM Ring.usedAt Ring.stepU
    simp only [Nat.zero_add, hu1, Int.toNat_natCast]
  rw [hgv]
  simp only [true_and]
  generalize hM : lset (lset (lset m (18 * n + 4 + 4 + 8 * (cn % 65536 % n)) 4 e.head) (18 * n + 4 + 4 + 8 * (cn % 65536 % n) + 4) 4 e.c.length) (18 * n + 4 + 2) 2 ((cn + 1) % 65536) = M
  have l1 : (lset m (18 * n + 4 + 4 + 8 * (cn % 65536 % n)) 4 e.head).length = m.length := lset_len (by omega)
  have l2 : (lset (lset m (18 * n + 4 + 4 + 8 * (cn % 65536 % n)) 4 e.head) (18 * n + 4 + 4 + 8 * (cn % 65536 % n) + 4) 4 e.c.length).length = m.length := by rw [lset_len (by omega), l1]
  have lM : M.length = m.length := by rw [← hM, lset_len (by omega), l2]
  have low : ∀ a t, a + t ≤ 18 * n + 4 → lget M a t = lget m a t := fun a t ht => by
    rw [← hM, lget_off (by omega) (by omega), lget_off (by omega) (by omega), lget_off (by omega) (by omega)]
  have m0 : lget M (18 * n + 4 + 4 + 8 * (cn % 65536 % n)) 4 = e.head := by
    rw [← hM, lget_off (by omega) (by omega), lget_off (by omega) (by omega), lget_lset (by omega) (by omega)]
  have m4 : lget M (18 * n + 4 + 4 + 8 * (cn % 65536 % n) + 4) 4 = e.c.length := by
    rw [← hM, lget_off (by omega) (by omega), lget_lset (by omega) (by omega)]
  have mi : lget M (18 * n + 4 + 2) 2 = (cn + 1) % 65536 := by
    rw [← hM, lget_lset (by omega) (by omega)]
  clear hM l1 l2 hgv
  have hch : d.ch (e.head : Int) = some e.c := (h.ch _ _).2 ⟨e, List.mem_cons_self, rfl, rfl⟩
  have hdr := h.dr
  rw [List.length_cons] at hdr
  have hbl := h.bl
  have hbs := h.bs
  have hchs := h.ch
  obtain ⟨dr, db, dch⟩ := d
  simp only at hdr hch hbl hbs hchs
  subst hdr
  have hused : (⟨⟨0, n, (cn + (Q.length + 1)) % 65536, cn % 65536⟩, db, dch⟩ : Dr).used M = ⟨e.head, e.c.length, 0, ⟨⟨0, n, (cn + (Q.length + 1)) % 65536, (cn + 1) % 65536⟩, unbusy db e.c, fun j => if j = (e.head : Nat) then none else dch j⟩⟩ := by
    unfold Dr.used Ring.usedAt Ring.stepU
    simp only [Nat.zero_add]
    rw [mi, if_neg (by omega), m0]
    simp only [hch, m4, hu1]
  rw [hused]
  refine ⟨rfl, rfl, rfl, ?_⟩
  refine ⟨?_, rfl, by rw [lM, hml], ?_, ?_, ?_, ?_, ?_, hnd2.2.1, ?_, ?_, ?_, ?_⟩
  · show (⟨0, n, _, _⟩ : Ring) = _
    congr 2; omega
  · rw [low _ _ (by omega)]
    have := h.g1
    rw [List.length_cons] at this
    rw [this]; congr 1; omega
  · exact mi
  · intro q x hx
    have hx2 : (e :: Q)[q + 1]? = some x := by simpa using hx
    have hlt : (cn + 1 + q) % 65536 % n < n := Nat.mod_lt _ (by omega)
    rw [low _ _ (by omega)]
    have := h.av (q + 1) x hx2
    rw [show cn + (q + 1) = cn + 1 + q by omega] at this
    exact this
  · show (unbusy db e.c).length = n
    rw [unbusy_len]; exact hbl
  · intro i hi
    show (unbusy db e.c)[i]? = some true ↔ _
    rw [unbusy_get e.c db i (by omega), hbs i hi, hfl, List.mem_append]
    constructor
    · rintro ⟨h1 | h1, h2⟩
      · exact absurd h1 h2
      · exact h1
    · intro h1
      exact ⟨.inr h1, fun h2 => hnd2.2.2 i h2 i h1 rfl⟩
  · intro i hi; exact h.lt i (by rw [hfl]; exact List.mem_append_right _ hi)
  · intro x hx; exact h.ne x (List.mem_cons_of_mem _ hx)
  · intro k c
    show (if k = ((e.head : Nat) : Int) then none else dch k) = some c ↔ _
    have hno : ∀ x ∈ Q, x.head ≠ e.head := fun x hx he => by
      have h1 : x.head ∈ flat Q := mem_flat.2 ⟨x, hx, head_mem (h.ne x (List.mem_cons_of_mem _ hx))⟩
      rw [he] at h1
      exact hnd2.2.2 _ hhm _ h1 rfl
    split
    · rename_i hk
      constructor
      · intro h; cases h
      · rintro ⟨x, hx, h1, _⟩
        exact absurd (by omega) (hno x hx)
    · rename_i hk
      rw [hchs k c]
      constructor
      · rintro ⟨x, hx, h1, h2⟩
        rcases List.mem_cons.1 hx with rfl | hx
        · exact absurd h1.symm hk
        · exact ⟨x, hx, h1, h2⟩
      · rintro ⟨x, hx, h1, h2⟩; exact ⟨x, List.mem_cons_of_mem _ hx, h1, h2⟩
  · intro x hx j i hji
    have hin := h.lt i (mem_flat.2 ⟨x, List.mem_cons_of_mem _ hx, List.mem_of_getElem? hji⟩)
    obtain ⟨i1, i2, i3, i4⟩ := h.ds x (List.mem_cons_of_mem _ hx) j i hji
    exact ⟨by rw [low _ _ (by omega)]; exact i1, by rw [low _ _ (by omega)]; exact i2, by rw [low _ _ (by omega)]; exact i3, by rw [low _ _ (by omega)]; exact i4⟩
theorem empty_says (h : OInv n d r m [] cn) : r.take m = (⟨0, [], 2⟩, r) ∧ d.used m = ⟨0, 0, 2, d⟩ ∧ free d.busy = n ∧ ∀ k, d.ch k = none := by
  have hfr := h.free
  have hg1 : lget m (16 * n + 2) 2 = cn % 65536 := h.g1
  have hg2 := h.g2
  have hdr := h.dr
  refine ⟨?_, ?_, by simpa [flat] using hfr, fun k => ?_⟩
  · rw [h.rr]
    unfold Ring.take
    simp only [Nat.zero_add]
    rw [if_pos hg1]
  · unfold Dr.used
    rw [hdr]
    simp only [Nat.zero_add]
    rw [if_pos hg2]
  · cases hk : d.ch k with
    | none => rfl
    | some c =>
      obtain ⟨e, he, _⟩ := (h.ch k c).1 hk
      simp at he
end
end Go.Proofs.Ytnniipeoahpkcaa
