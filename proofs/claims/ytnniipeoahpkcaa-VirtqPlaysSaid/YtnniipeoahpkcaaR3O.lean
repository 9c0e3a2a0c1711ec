/- The document's queue: a chain that is under way owns its descriptors: in plain words. -/
import Derived.Test.YtnniipeoahpkcaaR3H
import Derived.Test.YtnniipeoahpkcaaVqP
namespace Go.Proofs.Ytnniipeoahpkcaa
set_option linter.unusedVariables false
set_option linter.unusedSimpArgs false
structure Own (d : Dr) : Prop where
  busy : ∀ k c, d.ch k = some c → ∀ i ∈ c, d.busy[i]? = some true
  head : ∀ k c, d.ch k = some c → c ≠ [] ∧ k = ((c.getD 0 0 : Nat) : Int)
  apart : ∀ k c k' c', d.ch k = some c → d.ch k' = some c' → k ≠ k' → ∀ i ∈ c, i ∉ c'
theorem own_new (base n : Nat) : Own (Dr.new base n) := ⟨fun k c h => (by cases h), fun k c h => (by cases h), fun k c k' c' h => (by cases h)⟩
theorem getD0_mem {c : List Nat} (h : c ≠ []) : c.getD 0 0 ∈ c := by
  cases c with
  | nil => exact absurd rfl h
  | cons a c => simp
section
variable {d : Dr} {z : Nat} {m : List UInt8}
theorem Own.key (h : Own d) (ok : DrOk d z) : ∀ k c, d.ch k = some c → 0 ≤ k ∧ k < d.r.n := fun k c hk => by
  obtain ⟨h1, h2⟩ := h.head k c hk
  have := ok.ch k c hk _ (getD0_mem h1)
  omega
theorem chain_free {k i : Nat} (hi : i ∈ chainOf d.busy k) : i < d.busy.length ∧ d.busy[i]? = some false := freeIdx_mem (List.mem_of_mem_take hi)
theorem chain_ne {k : Nat} (hk : 1 ≤ k) (hf : k ≤ free d.busy) : chainOf d.busy k ≠ [] := fun h => by
  have := chainOf_len hf
  rw [h] at this; simp at this; omega
theorem Own.fresh (h : Own d) {k : Nat} (hk : 1 ≤ k) (hf : k ≤ free d.busy) : d.ch (((chainOf d.busy k).getD 0 0 : Nat) : Int) = none := by
  cases hc : d.ch (((chainOf d.busy k).getD 0 0 : Nat) : Int) with
  | none => rfl
  | some c =>
    obtain ⟨h1, h2⟩ := h.head _ _ hc
    have h3 := h.busy _ _ hc _ (getD0_mem h1)
    have h4 := (chain_free (getD0_mem (chain_ne hk hf))).2
    rw [← Int.ofNat_inj.1 h2, h4] at h3
    cases h3
theorem Own.add (h : Own d) (ok : DrOk d z) {l : List Bf} : Own (d.add m l).d := by
  unfold Dr.add
  split
  · exact h
  · split
    · exact h
    · rename_i h1 h2
      have hk : 1 ≤ l.length := by omega
      have hf : l.length ≤ free d.busy := by omega
      have hfr := h.fresh hk hf
      have hne := chain_ne hk hf
      have hcf := fun i (hi : i ∈ chainOf d.busy l.length) => chain_free hi
      show Own (d.put (chainOf d.busy l.length))
      generalize chainOf d.busy l.length = c at *
      have hch : ∀ k, (d.put c).ch k = if k = ((c.getD 0 0 : Nat) : Int) then some c else d.ch k := fun k => rfl
      have hold : ∀ k c', d.ch k = some c' → ∀ i ∈ c', i ∉ c := fun k c' hk' i hi hi2 => by
        have h3 := h.busy k c' hk' i hi
        rw [(hcf i hi2).2] at h3; cases h3
      refine ⟨fun k c' hk' i hi => ?_, fun k c' hk' => ?_, fun k c1 k' c2 h1' h2' hkk i hi => ?_⟩
      · show (setbusy d.busy c)[i]? = some true
        rw [hch] at hk'
        split at hk'
        · cases hk'
          exact (setbusy_get c _ i (hcf i hi).1).2 (.inr hi)
        · have h3 := h.busy k c' hk' i hi
          exact (setbusy_get c _ i (List.getElem?_eq_some_iff.1 h3).1).2 (.inl h3)
      · rw [hch] at hk'
        split at hk'
        · cases hk'; exact ⟨hne, by assumption⟩
        · exact h.head k c' hk'
      · rw [hch] at h1' h2'
        split at h1'
        · cases h1'
          rw [if_neg (by omega)] at h2'
          exact fun hi2 => hold k' c2 h2' i hi2 hi
        · split at h2'
          · cases h2'
            exact hold k c1 h1' i hi
          · exact h.apart k c1 k' c2 h1' h2' hkk i hi
theorem Own.used (h : Own d) (ok : DrOk d z) : Own (d.used m).d := by
  unfold Dr.used
  split
  · exact h
  · split
    · exact ⟨h.busy, h.head, h.apart⟩
    · rename_i c hc
      generalize ((lget m (d.r.base + d.r.usedAt) 4 : Nat) : Int) = x at *
      show Own ⟨d.r.stepU, unbusy d.busy c, fun j => if j = x then none else d.ch j⟩
      refine ⟨fun k c' hk' i hi => ?_, fun k c' hk' => ?_, fun k c1 k' c2 h1' h2' hkk i hi => ?_⟩
      · show (unbusy d.busy c)[i]? = some true
        have hk2 : (if k = x then none else d.ch k) = some c' := hk'
        split at hk2
        · cases hk2
        · rename_i hne
          have h3 := h.busy k c' hk2 i hi
          exact (unbusy_get c _ i (List.getElem?_eq_some_iff.1 h3).1).2 ⟨h3, h.apart k c' x c hk2 hc hne i hi⟩
      · have hk2 : (if k = x then none else d.ch k) = some c' := hk'
        split at hk2
        · cases hk2
        · exact h.head k c' hk2
      · have hk1 : (if k = x then none else d.ch k) = some c1 := h1'
        have hk2 : (if k' = x then none else d.ch k') = some c2 := h2'
        split at hk1
        · cases hk1
        · split at hk2
          · cases hk2
          · exact h.apart k c1 k' c2 hk1 hk2 hkk i hi
end
end Go.Proofs.Ytnniipeoahpkcaa
