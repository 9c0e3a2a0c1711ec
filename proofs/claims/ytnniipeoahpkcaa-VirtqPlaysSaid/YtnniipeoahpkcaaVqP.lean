/- What holds while chains are under way, and what each step leaves of it: in plain words. -/
import Derived.Test.YtnniipeoahpkcaaVqO
namespace Go.Proofs.Ytnniipeoahpkcaa
set_option linter.unusedVariables false
set_option linter.unusedSimpArgs false
def flat (Q : List Ent) : List Nat := Q.flatMap (·.c)
structure OInv (n : Nat) (d : Dr) (r : Ring) (m : List UInt8) (Q : List Ent) (cn : Nat) : Prop where
  dr : d.r = ⟨0, n, (cn + Q.length) % 65536, cn % 65536⟩
  rr : r = ⟨0, n, cn % 65536, cn % 65536⟩
  ml : m.length = qs n
  g1 : lget m (16 * n + 2) 2 = (cn + Q.length) % 65536
  g2 : lget m (18 * n + 4 + 2) 2 = cn % 65536
  av : ∀ q e, Q[q]? = some e → lget m (16 * n + 4 + 2 * ((cn + q) % 65536 % n)) 2 = e.head
  bl : d.busy.length = n
  bs : ∀ i, i < n → (d.busy[i]? = some true ↔ i ∈ flat Q)
  nd : (flat Q).Nodup
  lt : ∀ i ∈ flat Q, i < n
  ne : ∀ e ∈ Q, e.c ≠ []
  ch : ∀ k c, d.ch k = some c ↔ ∃ e ∈ Q, (e.head : Int) = k ∧ e.c = c
  ds : ∀ e ∈ Q, ∀ j i, e.c[j]? = some i → Desc m i e.s j e.c.length (nxOf e.c j)
theorem filter_two {α : Type} (f : α → Bool) : ∀ l : List α, l.length = (l.filter f).length + (l.filter fun x => !f x).length
  | [] => rfl
  | x :: l => by
    have := filter_two f l
    rw [List.filter_cons, List.filter_cons, List.length_cons]
    cases f x <;> simp <;> omega
theorem mem_flat {Q : List Ent} {i : Nat} : i ∈ flat Q ↔ ∃ e ∈ Q, i ∈ e.c := by unfold flat; rw [List.mem_flatMap]
theorem head_mem {e : Ent} (h : e.c ≠ []) : e.head ∈ e.c := by
  unfold Ent.head
  cases hc : e.c with
  | nil => exact absurd hc h
  | cons a l => simp
theorem flat_len {Q : List Ent} (h : ∀ e ∈ Q, e.c ≠ []) : Q.length ≤ (flat Q).length := by
  unfold flat
  induction Q with
  | nil => simp
  | cons e Q ih =>
    rw [List.flatMap_cons, List.length_append, List.length_cons]
    have := ih (fun e he => h e (List.mem_cons_of_mem _ he))
    have h2 := List.length_pos_iff.2 (h e List.mem_cons_self)
    omega
section
variable {n cn : Nat} {d : Dr} {r : Ring} {m : List UInt8} {Q : List Ent}
theorem bool_cases {busy : List Bool} {i : Nat} (h : i < busy.length) : busy[i]? = some false ↔ ¬ busy[i]? = some true := by
  rw [List.getElem?_eq_getElem h]
  cases busy[i] <;> simp
theorem OInv.free (h : OInv n d r m Q cn) : free d.busy + (flat Q).length = n := by
  have h1 : (freeIdx d.busy n).length = Go.Proofs.Ytnniipeoahpkcaa.free d.busy := by rw [← h.bl, freeIdx_len _ (Nat.le_refl _), List.take_length]
  have h2 : (flat Q).Perm ((List.range n).filter fun j => !(d.busy[j]? == some false)) := by
    refine (List.perm_ext_iff_of_nodup h.nd (List.nodup_range.filter _)).2 fun i => ?_
    rw [List.mem_filter, List.mem_range]
    constructor
    · intro hi
      have hin := h.lt i hi
      refine ⟨hin, ?_⟩
      have := (h.bs i hin).2 hi
      rw [this]; rfl
    · rintro ⟨hin, hb⟩
      refine (h.bs i hin).1 ?_
      have := bool_cases (busy := d.busy) (i := i) (by rw [h.bl]; exact hin)
      by_cases hc : d.busy[i]? = some true
      · exact hc
      · rw [this.2 hc] at hb; simp at hb
  have h3 := h2.length_eq
  have h4 := filter_two (fun j => d.busy[j]? == some false) (List.range n)
  rw [List.length_range] at h4
  have h5 : (freeIdx d.busy n).length = ((List.range n).filter fun j => d.busy[j]? == some false).length := rfl
  omega
theorem OInv.dok (h : OInv n d r m Q cn) (hp : pow2 n = true) : DrOk d m.length ∧ RgOk r m.length := by
  refine ⟨⟨?_, ?_, ?_⟩, ?_⟩
  · rw [h.dr]; exact ⟨hp, by show 0 + qs n ≤ _; rw [h.ml]; omega, Nat.mod_lt _ (by omega), Nat.mod_lt _ (by omega)⟩
  · rw [h.dr]; exact h.bl
  · intro k c hk i hi
    obtain ⟨e, he, _, rfl⟩ := (h.ch k c).1 hk
    rw [h.dr]; exact h.lt i (mem_flat.2 ⟨e, he, hi⟩)
  · rw [h.rr]; exact ⟨hp, by show 0 + qs n ≤ _; rw [h.ml]; omega, Nat.mod_lt _ (by omega), Nat.mod_lt _ (by omega)⟩
theorem o_new (hp : pow2 n = true) (hz : ∀ a k, lget m a k = 0) (hm : m.length = qs n) : OInv n (Dr.new 0 n) ⟨0, n, 0, 0⟩ m [] 0 := by
  refine ⟨rfl, rfl, hm, hz _ _, hz _ _, fun q e h => by simp at h, List.length_replicate, fun i hi => ?_, List.nodup_nil, fun i h => by simp [flat] at h, fun e h => by simp at h, fun k c => ?_, fun e h => by simp at h⟩
  · simp [Dr.new, flat, List.getElem?_replicate, hi]
  · constructor
    · intro h; cases h
    · rintro ⟨e, he, _⟩; simp at he
theorem dvd_pow2 (hp : pow2 n = true) : n ∣ 65536 := by
  unfold pow2 at hp; simp at hp
  rcases hp with ((((((((rfl | rfl) | rfl) | rfl) | rfl) | rfl) | rfl) | rfl) | rfl) <;> decide
theorem slot_ne (hp : pow2 n = true) {a q q' : Nat} (h1 : q < q') (h2 : q' < n + q) : (a + q) % 65536 % n ≠ (a + q') % 65536 % n := by
  rw [Nat.mod_mod_of_dvd _ (dvd_pow2 hp), Nat.mod_mod_of_dvd _ (dvd_pow2 hp)]
  intro h
  have h3 := Nat.sub_mod_eq_zero_of_mod_eq h.symm
  rw [show a + q' - (a + q) = q' - q by omega, Nat.mod_eq_of_lt (by omega)] at h3
  omega
theorem setbusy_get (c : List Nat) : ∀ (busy : List Bool) (i : Nat), i < busy.length → ((setbusy busy c)[i]? = some true ↔ busy[i]? = some true ∨ i ∈ c) := by
  induction c with
  | nil => intro b i hi; simp [setbusy]
  | cons a c ih =>
    intro b i hi
    show (setbusy (b.set a true) c)[i]? = some true ↔ _
    rw [ih _ _ (by rw [List.length_set]; exact hi), List.getElem?_set, List.mem_cons]
    by_cases ha : a = i
    · subst ha; simp [hi]
    · rw [if_neg ha]
      constructor
      · rintro (h | h)
        · exact .inl h
        · exact .inr (.inr h)
      · rintro (h | h | h)
        · exact .inl h
        · exact absurd h.symm ha
        · exact .inr h
theorem unbusy_get (c : List Nat) : ∀ (busy : List Bool) (i : Nat), i < busy.length → ((unbusy busy c)[i]? = some true ↔ busy[i]? = some true ∧ i ∉ c) := by
  induction c with
  | nil => intro b i hi; simp [unbusy]
  | cons a c ih =>
    intro b i hi
    show (unbusy (b.set a false) c)[i]? = some true ↔ _
    rw [ih _ _ (by rw [List.length_set]; exact hi), List.getElem?_set, List.mem_cons]
    by_cases ha : a = i
    · subst ha; simp [hi]
    · rw [if_neg ha]
      constructor
      · rintro ⟨h1, h2⟩; exact ⟨h1, fun h => h.elim (fun e => ha e.symm) h2⟩
      · rintro ⟨h1, h2⟩; exact ⟨h1, fun h => h2 (.inr h)⟩
theorem add_full {l : List Bf} (hl : 0 < l.length) (hb : l.any Bf.bad = false) (hf : Go.Proofs.Ytnniipeoahpkcaa.free d.busy < l.length) : d.add m l = ⟨0, 7, d, m⟩ := by
  unfold Dr.add
  rw [if_neg (by rintro (h | h); omega; rw [hb] at h; cases h), if_pos hf]
theorem add_inv {s k : Nat} (hp : pow2 n = true) (hk : 1 ≤ k) (hs : s + k ≤ 1000000) (h : OInv n d r m Q cn) (hf : k ≤ Go.Proofs.Ytnniipeoahpkcaa.free d.busy) :
    ∃ c, c.length = k ∧ (d.add m (bufsOf s k)).h = (⟨c, s⟩ : Ent).head ∧ (d.add m (bufsOf s k)).e = 0 ∧ OInv n (d.add m (bufsOf s k)).d r (d.add m (bufsOf s k)).m (Q ++ [⟨c, s⟩]) cn := by
  have hn := pow2_le hp
  have hfr := h.free
  have hcl := chainOf_len hf
  have hfn : Go.Proofs.Ytnniipeoahpkcaa.free d.busy ≤ n := by omega
  have hadd : d.add m (bufsOf s k) = ⟨(chainOf d.busy k).getD 0 0, 0, d.put (chainOf d.busy k), d.putM m (chainOf d.busy k) (bufsOf s k)⟩ := by
    unfold Dr.add
    rw [bufsOf_len, if_neg (by rintro (h | h); omega; rw [bufsOf_good s k (by omega)] at h; cases h), if_neg (by omega)]
  have hcm : ∀ i ∈ chainOf d.busy k, i < n ∧ d.busy[i]? = some false := fun i hi => by
    have := freeIdx_mem (List.mem_of_mem_take hi)
    rw [h.bl] at this; exact this
  have hcn : ∀ i ∈ chainOf d.busy k, i < n := fun i hi => (hcm i hi).1
  have hcd : (chainOf d.busy k).Nodup := by
    unfold chainOf freeIdx
    exact List.Nodup.sublist (List.take_sublist _ _) (List.nodup_range.filter _)
  have hcf : ∀ i ∈ chainOf d.busy k, i ∉ flat Q := fun i hi hq => by
    have h1 := (h.bs i (hcn i hi)).2 hq
    rw [(hcm i hi).2] at h1; cases h1
  rw [hadd]
  generalize chainOf d.busy k = c at *
  refine ⟨c, hcl, rfl, rfl, ?_⟩
  have hq : qs n = 8 + 26 * n := rfl
  have hQl := flat_len h.ne
  have hQn : Q.length < n := by omega
  have hdr := h.dr
  obtain ⟨dr, db, dch⟩ := d
  simp only at hdr
  subst hdr
  -- the memory
  have hoff : (cn + Q.length) % 65536 < 65536 := Nat.mod_lt _ (by omega)
  have hsl : (cn + Q.length) % 65536 % n < n := Nat.mod_lt _ (by omega)
  have hmm : (⟨⟨0, n, (cn + Q.length) % 65536, cn % 65536⟩, db, dch⟩ : Dr).putM m c (bufsOf s k) = lset (lset (descs 0 c (bufsOf s k) m k) (16 * n + 4 + 2 * ((cn + Q.length) % 65536 % n)) 2 (c.getD 0 0)) (16 * n + 2) 2 ((cn + (Q.length + 1)) % 65536) := by
    unfold Dr.putM
    rw [bufsOf_len]
    simp only [Nat.zero_add]
    congr 1; omega
  rw [hmm]
  have hdl : (descs 0 c (bufsOf s k) m k).length = m.length := descs_len (n := n) (by omega) hcn (by rw [h.ml]; omega) k
  have hml := h.ml
  have l1 : (lset (descs 0 c (bufsOf s k) m k) (16 * n + 4 + 2 * ((cn + Q.length) % 65536 % n)) 2 (c.getD 0 0)).length = m.length := by rw [lset_len (by omega), hdl]
  have hh0 : c.getD 0 0 < n := by
    cases c with
    | nil => simp at hcl; omega
    | cons a c => exact hcn a List.mem_cons_self
  have low : ∀ a t, a + t ≤ 16 * n + 2 → lget (lset (lset (descs 0 c (bufsOf s k) m k) (16 * n + 4 + 2 * ((cn + Q.length) % 65536 % n)) 2 (c.getD 0 0)) (16 * n + 2) 2 ((cn + (Q.length + 1)) % 65536)) a t = lget (descs 0 c (bufsOf s k) m k) a t := fun a t ht => by
    rw [lget_off (by omega) (by omega), lget_off (by omega) (by omega)]
  have doff : ∀ a t, (∀ i ∈ c, a + t ≤ 16 * i ∨ 16 * i + 16 ≤ a) → lget (descs 0 c (bufsOf s k) m k) a t = lget m a t := fun a t hd => descs_off (n := n) (by omega) hcn (by omega) (by rw [bufsOf_len]; exact hcl) hd k (by omega)
  have hhigh : ∀ a t, 16 * n ≤ a → ∀ i ∈ c, a + t ≤ 16 * i ∨ 16 * i + 16 ≤ a := fun a t ha i hi => by have := hcn i hi; omega
  have hdsc := descs_says (s := s) (m := m) (by omega) hcn hcd (by omega) (by omega) k (by omega)
  rw [hcl] at hdsc
  have hfl2 : flat (Q ++ [⟨c, s⟩]) = flat Q ++ c := by unfold flat; rw [List.flatMap_append, List.flatMap_singleton]
  have hQ2 : (Q ++ [(⟨c, s⟩ : Ent)]).length = Q.length + 1 := by simp
  refine ⟨?_, h.rr, ?_, ?_, ?_, ?_, ?_, ?_, ?_, ?_, ?_, ?_, ?_⟩
  · show (⟨0, n, _, _⟩ : Ring) = _
    rw [hQ2]
    show (⟨0, n, ((cn + Q.length) % 65536 + 1) % 65536, cn % 65536⟩ : Ring) = _
    congr 1; omega
  · rw [lset_len (by omega), l1, hml]
  · rw [hQ2, lget_lset (by omega) (by omega)]
  · rw [lget_off (by omega) (by omega), lget_off (by omega) (by omega), doff _ _ (hhigh _ _ (by omega)), h.g2]
  · intro q e hqe
    rw [lget_off (by have : (cn + q) % 65536 % n < n := Nat.mod_lt _ (by omega); omega) (by omega)]
    rcases Nat.lt_or_ge q Q.length with hq1 | hq1
    · rw [List.getElem?_append_left hq1] at hqe
      have hne := slot_ne hp (a := cn) (q := q) (q' := Q.length) hq1 (by omega)
      rw [lget_off (by omega) (by omega), doff _ _ (hhigh _ _ (by omega))]
      exact h.av q e hqe
    · have hqq : q = Q.length := by
        have := (List.getElem?_eq_some_iff.1 hqe).1
        rw [hQ2] at this; omega
      subst hqq
      rw [List.getElem?_append_right (Nat.le_refl _), Nat.sub_self] at hqe
      cases hqe
      rw [lget_lset (by omega) (by omega)]; rfl
  · show (setbusy db c).length = n
    rw [setbusy_len]; exact h.bl
  · intro i hi
    show (setbusy db c)[i]? = some true ↔ _
    rw [setbusy_get c db i (by rw [h.bl]; exact hi), hfl2, List.mem_append, h.bs i hi]
  · rw [hfl2]
    refine List.nodup_append.2 ⟨h.nd, hcd, ?_⟩
    intro a ha b hb hab
    subst hab
    exact hcf a hb ha
  · intro i hi
    rw [hfl2, List.mem_append] at hi
    exact hi.elim (h.lt i) (hcn i)
  · intro e he
    rcases List.mem_append.1 he with he | he
    · exact h.ne e he
    · have : e = ⟨c, s⟩ := by simpa using he
      subst this
      exact List.length_pos_iff.1 (by show 0 < c.length; omega)
  · intro x y
    have hput : (⟨⟨0, n, (cn + Q.length) % 65536, cn % 65536⟩, db, dch⟩ : Dr).put c = ⟨_, _, upo dch ((c.getD 0 0 : Nat) : Int) c⟩ := rfl
    rw [hput]
    show (if x = ((c.getD 0 0 : Nat) : Int) then some c else dch x) = some y ↔ _
    have hh0m : c.getD 0 0 ∈ c := by
      cases c with
      | nil => simp at hcl; omega
      | cons a c => simp
    split
    · rename_i hx
      constructor
      · intro e
        cases e
        exact ⟨⟨c, s⟩, List.mem_append_right _ (by simp), hx.symm, rfl⟩
      · rintro ⟨e, he, h1, rfl⟩
        rcases List.mem_append.1 he with he | he
        · exfalso
          have h2 : e.head = c.getD 0 0 := by omega
          exact hcf _ hh0m (by rw [← h2]; exact mem_flat.2 ⟨e, he, head_mem (h.ne e he)⟩)
        · have : e = ⟨c, s⟩ := by simpa using he
          rw [this]
    · rename_i hx
      rw [h.ch x y]
      constructor
      · rintro ⟨e, he, h1, h2⟩; exact ⟨e, List.mem_append_left _ he, h1, h2⟩
      · rintro ⟨e, he, h1, h2⟩
        rcases List.mem_append.1 he with he | he
        · exact ⟨e, he, h1, h2⟩
        · have : e = ⟨c, s⟩ := by simpa using he
          subst this
          exact absurd h1.symm hx
  · intro e he j i hji
    rcases List.mem_append.1 he with he | he
    · have hiQ := mem_flat.2 ⟨e, he, List.mem_of_getElem? hji⟩
      have hin := h.lt i hiQ
      have hni : ∀ x ∈ c, x ≠ i := fun x hx e => hcf x hx (by rw [e]; exact hiQ)
      have hd : ∀ a t, 16 * i ≤ a → a + t ≤ 16 * i + 16 → ∀ x ∈ c, a + t ≤ 16 * x ∨ 16 * x + 16 ≤ a := fun a t h1 h2 x hx => by have := hni x hx; omega
      obtain ⟨i1, i2, i3, i4⟩ := h.ds e he j i hji
      exact ⟨by rw [low _ _ (by omega), doff _ _ (hd _ _ (by omega) (by omega))]; exact i1, by rw [low _ _ (by omega), doff _ _ (hd _ _ (by omega) (by omega))]; exact i2,
        by rw [low _ _ (by omega), doff _ _ (hd _ _ (by omega) (by omega))]; exact i3, by rw [low _ _ (by omega), doff _ _ (hd _ _ (by omega) (by omega))]; exact i4⟩
    · have : e = ⟨c, s⟩ := by simpa using he
      subst this
      have hji2 : c[j]? = some i := hji
      have hin := hcn i (List.mem_of_getElem? hji2)
      have hjk : j < k := by have := (List.getElem?_eq_some_iff.1 hji2).1; omega
      obtain ⟨i1, i2, i3, i4⟩ := hdsc j i hjk hji2
      show Desc _ i s j c.length (nxOf c j)
      rw [hcl]
      exact ⟨by rw [low _ _ (by omega)]; exact i1, by rw [low _ _ (by omega)]; exact i2, by rw [low _ _ (by omega)]; exact i3, by rw [low _ _ (by omega)]; exact i4⟩
end
end Go.Proofs.Ytnniipeoahpkcaa
