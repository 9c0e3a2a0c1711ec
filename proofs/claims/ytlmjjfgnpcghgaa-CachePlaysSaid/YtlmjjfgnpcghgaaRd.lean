/- Bytes that can be read; what is held gives it, in whatever world. (The parts of other seats' texts that want no package num.) No condition beside the sizes. -/
import Derived.Test.YtlmjjfgnpcghgaaBytes
import Derived.Test.YtlmjjfgnpcghgaaCopy
import Derived.Test.YtlmjjfgnpcghgaaChecked
import Derived.Lib.SlBytesConst
import Derived.Lib.SliceRun
namespace Go.Proofs.Ytlmjjfgnpcghgaa
set_option linter.unusedVariables false
set_option linter.unusedSimpArgs false
open Go.RowKit

/-- the value v reads as these bytes -/
def RdB (v : Value) (l : List UInt8) (w : World) : Prop :=
  (v = .slice none 0 0 ∧ l = []) ∨ ∃ b off c, v = .slice (some ⟨b, off, none⟩) l.length c ∧ l.length ≤ c ∧ c ≤ 9223372036854775807 ∧ ∀ i, i < l.length → w.cell? ⟨b, off + i, none⟩ = some (.int .u8 (((l.getD i 0).toNat : Nat) : Int))
/-- what is held gives this, in whatever world -/
def Gives (L : List HP) (F : World → Prop) : Prop := ∀ w, SatL w L → F w
theorem RdB.valn {w : World} {v : Value} {l : List UInt8} (h : RdB v l w) : ∃ a c, v = .slice a l.length c ∧ l.length ≤ c ∧ c ≤ 9223372036854775807 := by
  rcases h with ⟨rfl, rfl⟩ | ⟨b, off, c, rfl, h1, h2, _⟩
  · exact ⟨none, 0, rfl, by simp, by omega⟩
  · exact ⟨_, c, rfl, h1, h2⟩
theorem RdB.at {w : World} {a : Option Addr} {n c : Nat} {l : List UInt8} (h : RdB (.slice a n c) l w) (hl : 0 < l.length) : n = l.length ∧ n ≤ c ∧ c ≤ 9223372036854775807 ∧ ∃ b off, a = some ⟨b, off, none⟩ ∧ ∀ i, i < l.length → w.cell? ⟨b, off + i, none⟩ = some (.int .u8 (((l.getD i 0).toNat : Nat) : Int)) := by
  rcases h with ⟨_, rfl⟩ | ⟨b, off, c, h0, h1, h2, h3⟩
  · simp at hl
  · cases h0; exact ⟨rfl, h1, h2, b, off, rfl, h3⟩
theorem SlB.rd {w : World} {L : List HP} {T : Nat} {v : Value} {l : List UInt8} (h : SatL w (SlB T v l :: L)) : RdB v l w := by
  obtain ⟨a, c, rfl, h1, h2⟩ := SlB.valn h
  rcases Nat.eq_zero_or_pos l.length with h0 | h0
  · rcases Sl.form h with ⟨h3, h4⟩ | ⟨b, off, cap, h3, h4, h5⟩
    · injection h3 with e1 e2 e3
      subst e1; subst e3
      exact .inl ⟨by rw [h0], List.eq_nil_of_length_eq_zero h0⟩
    · injection h3 with e1 e2 e3
      subst e1
      exact .inr ⟨b, off, c, rfl, h1, h2, fun i hi => by omega⟩
  · obtain ⟨b, off, rfl⟩ := Sl.addr h h0
    exact .inr ⟨b, off, c, rfl, h1, h2, fun i hi => SlB.cell h hi⟩
theorem RdB.sub {w : World} {b off n c : Nat} {l : List UInt8} (h : RdB (.slice (some ⟨b, off, none⟩) n c) l w) {i j : Nat} (hij : i ≤ j) (hj : j ≤ l.length) : RdB (.slice (some ⟨b, off + i, none⟩) (j - i) (c - i)) ((l.take j).drop i) w := by
  rcases h with ⟨h0, _⟩ | ⟨b', off', c', h0, h1, h2, h3⟩
  · cases h0
  · cases h0
    have hl : ((l.take j).drop i).length = j - i := by simp; omega
    refine .inr ⟨b, off + i, c - i, by rw [hl], by omega, by omega, fun k hk => ?_⟩
    rw [hl] at hk
    rw [Nat.add_assoc, h3 (i + k) (by omega)]
    congr 4
    simp only [List.getD_eq_getElem?_getD, List.getElem?_drop, List.getElem?_take]
    rw [if_pos (by omega)]
theorem SrcOk.ofRdB {w : World} {v : Value} {l : List UInt8} (h : RdB v l w) : SrcOk Try.prog 29 1 w v l.length (bvs l) := by
  refine ⟨by simp, ?_⟩
  rcases h with ⟨rfl, rfl⟩ | ⟨b, off, c, rfl, h1, h2, h3⟩
  · exact .inl ⟨rfl, rfl, 5, by kernel_rfl⟩
  · refine .inr (.inl ⟨_, _, rfl, ⟨5, by kernel_rfl⟩, fun j y hy => ?_⟩)
    rw [addr_add]
    have hj : j < l.length := by have := (List.getElem?_eq_some_iff.1 hy).1; simpa using this
    rw [h3 j hj, ← hy]
    rw [List.getElem?_map, List.getElem?_eq_getElem hj]
    simp [List.getD, hj]
theorem elem_byte : ElemOk Try.prog 29 5 1 1 [Value.int .u8 0] := .of (z := .int .u8 0) (by kernel_rfl) (by kernel_rfl) rfl rfl (by decide) (by simp [Value.oneCell'])
theorem Gives.next {L : List HP} {X : HP} {F : World → Prop} (g : Gives L F) : Gives (X :: L) F := fun w h => g w (SatL.tail h)
section
variable {w : World} {L : List HP} {T : Nat}
theorem SatL.cellPt {b i : Nat} {fr : Nat × Nat} {cs : Array Value} {v : Value} (h : SatL w (pt b (.cells cs T fr) :: L)) (hv : cs[i]? = some v) : w.cell? ⟨b, i, none⟩ = some v := by
  have := h.heap
  simp [World.cell?, this, hv]
theorem RdB.ofPt {b c n : Nat} {fr : Nat × Nat} {l : List UInt8} {cs : Array Value} (h : SatL w (pt b (.cells cs T fr) :: L)) (hcs : cs = (bvs l).toArray) (hn : n = l.length) (hc : n ≤ c) (hc2 : c ≤ 9223372036854775807) : RdB (.slice (some ⟨b, 0, none⟩) n c) l w := by
  subst hcs; subst hn
  refine .inr ⟨b, 0, c, rfl, hc, hc2, fun i hi => ?_⟩
  rw [Nat.zero_add]
  exact h.cellPt (by simp [List.getD, hi])
theorem bvs_zeros (n : Nat) : bvs (List.replicate n 0) = List.replicate n (.int .u8 0) := by rw [bvs, List.map_replicate]; rfl
/-- string(b) of whatever reads as bytes -/
theorem RdB.conv {v : Value} {l : List UInt8} (h : RdB v l w) : (convert 29 9 v).run Try.prog w = .ok (.string ⟨l.toArray⟩) w := by
  rcases h with ⟨rfl, rfl⟩ | ⟨b, off, c, rfl, h1, h2, h3⟩
  · rw [run_convert_bytes_string w 29 9 5 none 0 0 Try.underlying29 Try.underlying5 (by kernel_rfl)]
    rfl
  · exact run_convert_bytes_back (P := Try.prog) w 29 9 5 ⟨b, off, none⟩ c l Try.underlying29 Try.underlying5 (by kernel_rfl) (by
      intro j hj
      rw [addr_add, h3 j hj]
      congr 3
      rw [List.getD_eq_getElem?_getD, List.getElem?_eq_getElem hj]
      rfl)
theorem strEq_iff (a b : List UInt8) : ((⟨a.toArray⟩ : ByteArray) = ⟨b.toArray⟩) ↔ a = b := by
  constructor
  · intro e
    injection e with e
    have := congrArg Array.toList e
    simpa using this
  · rintro rfl; rfl
theorem RdB.drewN {v : Value} {l : List UInt8} {w : World} (h : RdB v l w) (m : Nat) : RdB v l (w.drewN m) := h
theorem RdB.alloc {v : Value} {l : List UInt8} (h : RdB v l w) (o : Obj) : RdB v l (w.alloc o) := by
  rcases h with h | ⟨b, off, c, h0, h1, h2, h3⟩
  · exact .inl h
  · exact .inr ⟨b, off, c, h0, h1, h2, fun i hi => Lib.cell?_alloc_marked _ (h3 i hi)⟩
theorem RdB.pre {w : World} {b off n c : Nat} {l : List UInt8} (h : RdB (.slice (some ⟨b, off, none⟩) n c) l w) {j : Nat} (hj : j ≤ l.length) : RdB (.slice (some ⟨b, off, none⟩) j c) (l.take j) w := by
  have := h.sub (i := 0) (j := j) (by omega) hj
  simpa using this
theorem bvs_setD {l : List UInt8} {j x : Nat} (hx : x < 256) : (bvs l).set j (.int .u8 (x : Int)) = bvs (l.set j (byteOf x)) := by
  have : Value.int .u8 (x : Int) = bv (byteOf x) := by rw [bv, byteOf_nat, Nat.mod_eq_of_lt hx]
  rw [this]; exact List.map_set.symm
end
end Go.Proofs.Ytlmjjfgnpcghgaa
