/- What a queue's sides keep from call to call: in plain words; the chapter's example. -/
import Derived.Test.YtnniipeoahpkcaaVqL
namespace Go.Proofs.Ytnniipeoahpkcaa
set_option linter.unusedVariables false
set_option linter.unusedSimpArgs false
theorem add_keeps {d : Dr} {m : List UInt8} {l : List Bf} (ok : DrOk d m.length) : DrOk (d.add m l).d m.length ∧ (d.add m l).m.length = m.length := by
  unfold Dr.add
  split
  · exact ⟨ok, rfl⟩
  · split
    · exact ⟨ok, rfl⟩
    · rename_i h1 h2
      have hn := pow2_le ok.rg.pw
      have hq : qs d.r.n = 8 + 26 * d.r.n := rfl
      have hf := ok.rg.fit
      have hc : ∀ i ∈ chainOf d.busy l.length, i < d.r.n := fun i hi => by rw [← ok.len]; exact chainOf_lt hi
      have hqn : d.r.off % d.r.n < d.r.n := Nat.mod_lt _ (by omega)
      refine ⟨⟨⟨ok.rg.pw, ok.rg.fit, Nat.mod_lt _ (by omega), ok.rg.ub⟩, ?_, ?_⟩, ?_⟩
      · show (setbusy _ _).length = _
        rw [setbusy_len]; exact ok.len
      · intro k c hk i hi
        have hk2 : (if k = _ then some _ else d.ch k) = some c := hk
        split at hk2
        · cases hk2; exact hc i hi
        · exact ok.ch k c hk2 i hi
      · show (d.putM _ _ _).length = _
        have hd := descs_len (base := d.r.base) (c := chainOf d.busy l.length) (l := l) (m := m) (by omega) hc hf l.length
        unfold Dr.putM
        rw [lset_len (by rw [lset_len (by omega)]; omega), lset_len (by omega), hd]
theorem take_keeps {r : Ring} {m : List UInt8} {z : Nat} (ok : RgOk r z) : RgOk (r.take m).2 z := by
  have hs : RgOk r.step z := ⟨ok.pw, ok.fit, Nat.mod_lt _ (by omega), ok.ub⟩
  unfold Ring.take
  split
  · exact ok
  · split
    · exact hs
    · exact hs
theorem give_keeps {r : Ring} {m : List UInt8} {h l : Int} (ok : RgOk r m.length) : RgOk (r.give m h l).r m.length ∧ (r.give m h l).m.length = m.length := by
  unfold Ring.give
  split
  · exact ⟨ok, rfl⟩
  · exact ⟨⟨ok.pw, ok.fit, ok.ob, Nat.mod_lt _ (by omega)⟩, giveM_len ok _ _⟩
theorem used_keeps {d : Dr} {m : List UInt8} {z : Nat} (ok : DrOk d z) : DrOk (d.used m).d z := by
  have hs : RgOk d.r.stepU z := ⟨ok.rg.pw, ok.rg.fit, ok.rg.ob, Nat.mod_lt _ (by omega)⟩
  unfold Dr.used
  split
  · exact ok
  · split
    · exact ⟨hs, ok.len, ok.ch⟩
    · refine ⟨hs, ?_, ?_⟩
      · show (unbusy _ _).length = _
        rw [unbusy_len]; exact ok.len
      · intro k c hk i hi
        have hk2 : (if k = _ then none else d.ch k) = some c := hk
        split at hk2
        · cases hk2
        · exact ok.ch k c hk2 i hi
theorem new_drok {base n z : Nat} (hp : pow2 n = true) (hf : base + qs n ≤ z) : DrOk (Dr.new base n) z :=
  ⟨⟨hp, hf, by show 0 < 65536; omega, by show 0 < 65536; omega⟩, List.length_replicate, fun k c h => by cases h⟩
theorem new_rgok {base n z : Nat} (hp : pow2 n = true) (hf : base + qs n ≤ z) : RgOk ⟨base, n, 0, 0⟩ z := ⟨hp, hf, by show 0 < 65536; omega, by show 0 < 65536; omega⟩
def kL : List Bf := [⟨100, 16, false⟩, ⟨200, 512, true⟩]
def kM : List UInt8 := lzero (List.replicate 200 0) 0 (qs 4)
def kA : Addd := (Dr.new 0 4).add kM kL
def kT : Took × Ring := (⟨0, 4, 0, 0⟩ : Ring).take kA.m
def kG : Gave := kT.2.give kA.m 0 513
def kU : Usd := kA.d.used kG.m
theorem k_facts : kA.h = 0 ∧ kA.e = 0 ∧ kT.1.head = 0 ∧ kT.1.l.length = 2 ∧ (kT.1.l[1]?).map (·.wr) = some true ∧ kT.1.e = 0 ∧ kG.e = 0 ∧ kU.h = 0 ∧ kU.l = 513 ∧ kU.e = 0 ∧ free kU.d.busy = 4 := by decide +kernel
theorem kM_len : kM.length = 200 := by decide +kernel
theorem k_ok : DrOk (Dr.new 0 4) kM.length ∧ RgOk ⟨0, 4, 0, 0⟩ kM.length := by
  have h : 0 + qs 4 ≤ kM.length := by rw [kM_len]; decide
  exact ⟨new_drok (by decide) h, new_rgok (by decide) h⟩
/-- what a wild memory's device leaves -/
theorem lset_out {m : List UInt8} {a k v p : Nat} (h : a + k ≤ m.length) (hp : p < a ∨ a + k ≤ p) : (lset m a k v)[p]? = m[p]? := by
  unfold lset
  rcases hp with hp | hp
  · rw [List.append_assoc, List.getElem?_append_left (by rw [List.length_take]; omega), List.getElem?_take, if_pos hp]
  · rw [List.getElem?_append_right (by rw [List.length_append, List.length_take, lowb_len]; omega), List.length_append, List.length_take, lowb_len, List.getElem?_drop]
    congr 1; omega
theorem give_out {r : Ring} {m : List UInt8} {h l : Int} (ok : RgOk r m.length) {p : Nat} (hp : p < r.base ∨ r.base + qs r.n ≤ p) : (r.give m h l).m[p]? = m[p]? := by
  have hn := pow2_le ok.pw
  have hu := usedAt_le r (by omega)
  have hf := ok.fit
  have hq : qs r.n = 8 + 26 * r.n := rfl
  unfold Ring.give
  split
  · rfl
  · show (r.giveM _ _ _)[p]? = _
    unfold Ring.giveM
    have l1 : ∀ v, (lset m (r.base + r.usedAt) 4 v).length = m.length := fun v => lset_len (by omega)
    have l2 : ∀ v u, (lset (lset m (r.base + r.usedAt) 4 v) (r.base + (r.usedAt + 4)) 4 u).length = m.length := fun v u => by rw [lset_len (by rw [l1]; omega), l1]
    rw [lset_out (by rw [l2]; omega) (by omega), lset_out (by rw [l1]; omega) (by omega), lset_out (by omega) (by omega)]
theorem takeL_some {m : List UInt8} {b n : Nat} : ∀ f i out l, takeL m b n f i out = some l → i < n ∧ out.length < l.length ∧ l.length ≤ out.length + f
  | 0, i, out, l, h => by cases h
  | f + 1, i, out, l, h => by
    unfold takeL at h
    split at h
    · cases h
    · split at h
      · cases h
      · split at h
        · cases h; rw [List.length_append]; simp; omega
        · have := takeL_some f _ _ l h
          rw [List.length_append] at this
          simp at this; omega
theorem take_says {r : Ring} {m : List UInt8} : ((r.take m).1.e ≠ 0 ∧ (r.take m).1.head = 0 ∧ (r.take m).1.l = []) ∨ ((r.take m).1.e = 0 ∧ 1 ≤ (r.take m).1.l.length ∧ (r.take m).1.l.length ≤ r.n ∧ (r.take m).1.head < r.n) := by
  unfold Ring.take
  split
  · left; exact ⟨by show (2 : Int) ≠ 0; decide, rfl, rfl⟩
  · split
    · left; exact ⟨by show (15 : Int) ≠ 0; decide, rfl, rfl⟩
    · rename_i l hl
      have := takeL_some _ _ _ _ hl
      right; simp at this; exact ⟨rfl, by show 1 ≤ l.length; omega, by show l.length ≤ r.n; omega, this.1⟩
end Go.Proofs.Ytnniipeoahpkcaa
