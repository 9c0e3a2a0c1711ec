/- Block 0 of a volume: both writings of it. -/
import Derived.Test.YtklnlomleiebaaaVol
import Derived.Deep.RegionHeld3
import Derived.Lib.SlBytesConst
namespace Go.Proofs.Ytklnlomleiebaaa
set_option linter.unusedVariables false
set_option linter.unusedSimpArgs false
open Go.RowKit

def word8 : List UInt8 := [85, 78, 68, 67, 82, 79, 70, 49]
def supHead (b i : Nat) : List UInt8 := word8 ++ lowb 4 b ++ lowb 4 i
def supBody (b i : Nat) : List UInt8 := supHead b i ++ List.replicate 492 0
def encB (b i : Nat) : List UInt8 := supBody b i ++ lowb 4 (crcN (supBody b i))
theorem supHead_len (b i : Nat) : (supHead b i).length = 16 := by simp [supHead, word8, lowb_len]
theorem supBody_len (b i : Nat) : (supBody b i).length = 508 := by rw [supBody, List.length_append, supHead_len, List.length_replicate]
theorem encB_len (b i : Nat) : (encB b i).length = 512 := by rw [encB, List.length_append, supBody_len, lowb_len]

abbrev u64v (n : Nat) : Value := .int .u64 (n : Int)
section
variable {w : World} {L : List HP} {T : Nat}
theorem SatL.cellPt {b i : Nat} {fr : Nat × Nat} {cs : Array Value} {v : Value} (h : SatL w (pt b (.cells cs T fr) :: L)) (hv : cs[i]? = some v) : w.cell? ⟨b, i, none⟩ = some v := by
  have := h.heap
  simp [World.cell?, this, hv]
theorem RdB.ofPt {b c n : Nat} {fr : Nat × Nat} {l : List UInt8} {cs : Array Value} (h : SatL w (pt b (.cells cs T fr) :: L)) (hcs : cs = (bvs l).toArray) (hn : n = l.length) (hc : n ≤ c) (hc2 : c ≤ 9223372036854775807) : RdB (.slice (some ⟨b, 0, none⟩) n c) l w := by
  subst hcs; subst hn
  refine .inr ⟨b, 0, c, rfl, hc, hc2, fun i hi => ?_⟩
  rw [Nat.zero_add]
  exact h.cellPt (by simp [List.getD, hi])
theorem RdU.ofCl {b c n : Nat} {l : List Nat} {cs : Array Value} (h : SatL w (cl b T cs :: L)) (hcs : cs = (l.map u64v).toArray) (hn : n = l.length) (hc : n ≤ c) (hc2 : c ≤ 9223372036854775807) : RdU (.slice (some ⟨b, 0, none⟩) n c) l w := by
  subst hcs; subst hn
  refine .inr ⟨b, 0, c, rfl, hc, hc2, fun i hi => ?_⟩
  rw [Nat.zero_add]
  exact h.cell (by simp [List.getD, hi])
theorem RdRows.one {b c : Nat} {v : Value} {l : List UInt8} (h : SatL w (cl b T #[v] :: L)) (hv : RdB v l w) (hc : 1 ≤ c) (hc2 : c ≤ 9223372036854775807) : RdRows (.slice (some ⟨b, 0, none⟩) 1 c) [l] w := by
  refine .inr ⟨b, 0, c, rfl, hc, hc2, fun i hi => ?_⟩
  obtain rfl : i = 0 := by simp at hi; omega
  exact ⟨v, h.cell (i := 0) rfl, hv⟩
theorem fitsIn_32 {us : List Nat} (h : ∀ u ∈ us, u < 4294967296) : fitsIn 4 us := by
  intro i hi
  have e : (256 : Nat) ^ 4 = 4294967296 := by decide
  rw [e]
  simp only [List.getD, List.getElem?_eq_getElem hi, Option.getD_some]
  exact h _ (List.getElem_mem hi)

theorem putle4 {v vu : Value} {bs : List UInt8} {us : List Nat} (hf : ∀ u ∈ us, u < 4294967296) (hb : bs.length + us.length * 8 ≤ 1000000000) (h : SatL w L) (gb : Gives L (RdB v bs)) (gu : Gives L (RdU vu us)) :
    Calls Try.prog 32 #[v, .int .i64 4, vu] w (Ret (PutPost 5 L (bs ++ us.flatMap (lowb 4)))) :=
  putle_ok (k := 4) (.inr (.inr (.inl rfl))) (fitsIn_32 hf) hb h gb gu

theorem bvs_zeros (n : Nat) : bvs (List.replicate n 0) = List.replicate n (.int .u8 0) := by rw [bvs, List.map_replicate]; rfl
theorem body_of {v : Value} {b i : Nat} (h : SatL w (Sl T v (bvs (supHead b i) ++ List.replicate 492 (.int .u8 0)) :: L)) : SatL w (SlB T v (supBody b i) :: L) := by
  unfold supBody
  refine SlB.app ?_
  rw [bvs_zeros]
  exact h

abbrev wordCells : Array Value := #[.int .u8 85, .int .u8 78, .int .u8 68, .int .u8 67, .int .u8 82, .int .u8 79, .int .u8 70, .int .u8 49]
theorem wordCells_eq : wordCells = (bvs word8).toArray := by rfl

theorem u32_in (n : Nat) (h : n < 4294967296) : IntKind.u32.wrap (n : Int) = n := by rw [IntKind.wrap_u32']; omega
theorem u64_in (n : Nat) (h : n < 18446744073709551616) : IntKind.u64.wrap (n : Int) = n := by rw [IntKind.wrap_u64]; omega

end
end Go.Proofs.Ytklnlomleiebaaa
