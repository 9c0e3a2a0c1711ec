/- Arguments of the rpc laws: credentials, calls, rows of bytes and of 32-bit numbers that came in. No condition. -/
import Derived.Test.YtpecmkkcepnpeaaDoorRpcW
import Derived.Test.YtpecmkkcepnpeaaDoorArg
namespace Go.Proofs.YtpecmkkcepnpeaaDoor
set_option linter.unusedVariables false
set_option linter.unusedSimpArgs false
open Go.RowKit
variable {w : World}
theorem IsRow.u32 {a : Option Addr} {n : Nat} {A : Nat → Int} (h : IsRow w 1 a n (fun i => [.int .u32 (A i)])) (hA : ∀ i, 0 ≤ A i) (hn : 0 < n) : ∃ b off, a = some ⟨b, off, none⟩ ∧ ∀ i, i < n → w.cell? ⟨b, off + i, none⟩ = some (.int .u32 ((((List.range n).map fun i => (A i).toNat).getD i 0 : Nat) : Int)) := by
  obtain ⟨b, o, ha, hc⟩ := h.2 hn
  refine ⟨b, o, ha, fun i hi => ?_⟩
  have := (hc i hi).2 0 (.int .u32 (A i)) rfl
  rw [Nat.mul_one, Nat.add_zero] at this
  rw [this]
  simp only [List.getD_eq_getElem?_getD, List.getElem?_map, List.getElem?_range hi, Option.map_some, Option.getD_some]
  rw [Int.toNat_of_nonneg (hA i)]
theorem Rd.u32s {cs : List Value} (h : Rd Tryd.prog w 23 cs) : ∃ v gs, cs = [v] ∧ RdW v gs w ∧ (∀ g ∈ gs, g < 4294967296) ∧ gs.length ≤ 35184372088832 := by
  rcases Rd.slice Tryd.underlying23 (of_decide_eq_true (by kernel_rfl)) h with rfl | ⟨b, o, ln, cp, hs, rfl, h1, h2, _⟩
  · exact ⟨_, [], rfl, .inl ⟨rfl, rfl⟩, by simp, by simp⟩
  · have hre := Rd.reach (a := some ⟨b, o.1, o.2⟩) (len := ln) (cap := cp) Tryd.underlying23 h
    have hby : Tryd.prog.bytesOf 22 = 4 := by kernel_rfl
    rw [hby] at hre
    obtain ⟨A, hA, hb⟩ := Rd.ints (a := some ⟨b, o.1, o.2⟩) (len := ln) (cap := cp) Tryd.underlying23 Tryd.underlying22 (by kernel_rfl) h
    have hb1 : ∀ i, 0 ≤ A i ∧ A i ≤ 4294967295 := fun i => hb i
    have hl : ((List.range ln).map fun i => (A i).toNat).length = ln := by simp
    refine ⟨_, (List.range ln).map fun i => (A i).toNat, rfl, .inr ⟨⟨b, o.1, o.2⟩, cp, by rw [hl], by rw [hl]; exact h1, by unfold maxLen at h2; omega, fun h0 => ?_⟩, ?_, by rw [hl]; omega⟩
    · rw [hl] at h0 ⊢
      obtain ⟨b', off', e, h3⟩ := hA.u32 (fun i => (hb1 i).1) h0
      exact ⟨b', off', Option.some.inj e, h3⟩
    · intro g hg
      obtain ⟨i, _, rfl⟩ := List.mem_map.1 hg
      have := hb1 i
      omega
theorem Rd.u8s {cs : List Value} (h : Rd Tryd.prog w 27 cs) : ∃ v bs, cs = [v] ∧ RdV v bs w ∧ bs.length ≤ 140737488351232 := by
  rcases Rd.slice Tryd.underlying27 (of_decide_eq_true (by kernel_rfl)) h with rfl | ⟨b, o, ln, cp, hs, rfl, h1, h2, _⟩
  · exact ⟨_, [], rfl, .inl ⟨rfl, rfl⟩, by simp⟩
  · have hre := Rd.reach (a := some ⟨b, o.1, o.2⟩) (len := ln) (cap := cp) Tryd.underlying27 h
    have hby : Tryd.prog.bytesOf 5 = 1 := by kernel_rfl
    rw [hby] at hre
    obtain ⟨A, hA, hb⟩ := Rd.bytes (a := some ⟨b, o.1, o.2⟩) (len := ln) (cap := cp) Tryd.underlying27 Tryd.underlying5 (by kernel_rfl) h
    have hl : ((List.range ln).map fun i => UInt8.ofNat (A i)).length = ln := by simp
    refine ⟨_, (List.range ln).map fun i => UInt8.ofNat (A i), rfl, .inr ⟨⟨b, o.1, o.2⟩, cp, by rw [hl], by rw [hl]; exact h1, by unfold maxLen at h2; omega, fun h0 => ?_⟩, by rw [hl]; omega⟩
    rw [hl] at h0 ⊢
    obtain ⟨b', off', e, h3⟩ := hA.2 h0
    refine ⟨b', off', Option.some.inj e, fun i hi => ?_⟩
    have := (h3 i hi).2 0 (.int .u8 (A i : Int)) rfl
    rw [Nat.mul_one, Nat.add_zero] at this
    rw [this]
    simp only [List.getD_eq_getElem?_getD, List.getElem?_map, List.getElem?_range hi, Option.map_some, Option.getD_some]
    have := hb i
    rw [show (UInt8.ofNat (A i)).toNat = A i from by rw [UInt8.toNat_ofNat']; exact Nat.mod_eq_of_lt this]
theorem Rd.u32 {cs : List Value} (h : Rd Tryd.prog w 22 cs) : ∃ n : Nat, cs = [.int .u32 (n : Int)] ∧ n < 4294967296 := by
  obtain ⟨n, rfl, h1, h2⟩ := Rd.int Tryd.underlying22 h
  have h3 : 0 ≤ n := h1
  have h4 : n ≤ 4294967295 := h2
  exact ⟨n.toNat, by rw [Int.toNat_of_nonneg h3], by omega⟩
set_option maxRecDepth 100000 in
theorem Rd.cred {cs : List Value} (h : Rd Tryd.prog w 25 cs) : ∃ (uid gid : Nat) (gv : Value) (gs : List Nat), cs = [.int .u32 (uid : Int), .int .u32 (gid : Int), gv] ∧ uid < 4294967296 ∧ gid < 4294967296 ∧ RdW gv gs w ∧ (∀ g ∈ gs, g < 4294967296) ∧ gs.length ≤ 35184372088832 := by
  obtain ⟨hl, hf⟩ := Rd.struct Tryd.underlying25 h
  obtain ⟨u, hu, hu2⟩ := Rd.u32 (hf 0 _ rfl)
  obtain ⟨g, hg, hg2⟩ := Rd.u32 (hf 1 _ rfl)
  obtain ⟨v, gs, hv, h1, h2, h3⟩ := Rd.u32s (hf 2 _ rfl)
  have hc : Tryd.prog.cellsOf 25 = 3 := by kernel_rfl
  rw [hc] at hl
  exact ⟨u, g, v, gs, list3 hl hu hg hv, hu2, hg2, h1, h2, h3⟩
end Go.Proofs.YtpecmkkcepnpeaaDoor
