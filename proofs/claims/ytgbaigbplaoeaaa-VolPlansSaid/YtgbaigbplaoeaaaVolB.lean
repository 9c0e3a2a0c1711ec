/- Block 0 of a volume: both writings of it. -/
import Derived.Test.YtgbaigbplaoeaaaVol
import Derived.Deep.RegionHeld3
import Derived.Lib.SlBytesConst
namespace Go.Proofs.Ytgbaigbplaoeaaa
set_option linter.unusedVariables false
set_option linter.unusedSimpArgs false
open Go.RowKit

def word8 : List UInt8 := [85, 78, 68, 67, 82, 79, 70, 49]
def supHead (b i : Nat) : List UInt8 := word8 ++ lowb 4 b ++ lowb 4 i
def supBody (b i : Nat) : List UInt8 := supHead b i ++ List.replicate 492 0
def encB (b i : Nat) : List UInt8 := supBody b i ++ lowb 4 (crcN (supBody b i))
theorem supHead_len (b i : Nat) : (supHead b i).length = 16 := by simp [supHead, word8, lowb_len]
theorem supBody_len (b i : Nat) : (supBody b i).length = 508 := by rw [supBody, List.length_append, supHead_len, List.length_replicate]
theorem encB_len (b i : Nat) : (encB b i).length = 512 := by rw [encB, List.length_append, supBody_len, lowb_len]

abbrev u64v (n : Nat) : Value := .int .u64 (n : Int)
section
variable {w : World} {L : List HP} {T : Nat}
theorem SatL.cellPt {b i : Nat} {fr : Nat × Nat} {cs : Array Value} {v : Value} (h : SatL w (pt b (.cells cs T fr) :: L)) (hv : cs[i]? = some v) : w.cell? ⟨b, i, none⟩ = some v := by
  have := h.heap
  simp [World.cell?, this, hv]
theorem RdB.ofPt {b c n : Nat} {fr : Nat × Nat} {l : List UInt8} {cs : Array Value} (h : SatL w (pt b (.cells cs T fr) :: L)) (hcs : cs = (bvs l).toArray) (hn : n = l.length) (hc : n ≤ c) (hc2 : c ≤ 9223372036854775807) : RdB (.slice (some ⟨b, 0, none⟩) n c) l w := by
  subst hcs; subst hn
  refine .inr ⟨b, 0, c, rfl, hc, hc2, fun i hi => ?_⟩
  rw [Nat.zero_add]
  exact h.cellPt (by simp [List.getD, hi])
theorem RdU.ofCl {b c n : Nat} {l : List Nat} {cs : Array Value} (h : SatL w (cl b T cs :: L)) (hcs : cs = (l.map u64v).toArray) (hn : n = l.length) (hc : n ≤ c) (hc2 : c ≤ 9223372036854775807) : RdU (.slice (some ⟨b, 0, none⟩) n c) l w := by
  subst hcs; subst hn
  refine .inr ⟨b, 0, c, rfl, hc, hc2, fun i hi => ?_⟩
  rw [Nat.zero_add]
  exact h.cell (by simp [List.getD, hi])
theorem RdRows.one {b c : Nat} {v : Value} {l : List UInt8} (h : SatL w (cl b T #[v] :: L)) (hv : RdB v l w) (hc : 1 ≤ c) (hc2 : c ≤ 9223372036854775807) : RdRows (.slice (some ⟨b, 0, none⟩) 1 c) [l] w := by
  refine .inr ⟨b, 0, c, rfl, hc, hc2, fun i hi => ?_⟩
  obtain rfl : i = 0 := by simp at hi; omega
  exact ⟨v, h.cell (i := 0) rfl, hv⟩
theorem fitsIn_32 {us : List Nat} (h : ∀ u ∈ us, u < 4294967296) : fitsIn 4 us := by
  intro i hi
  have e : (256 : Nat) ^ 4 = 4294967296 := by decide
  rw [e]
  simp only [List.getD, List.getElem?_eq_getElem hi, Option.getD_some]
  exact h _ (List.getElem_mem hi)

theorem putle4 {v vu : Value} {bs : List UInt8} {us : List Nat} (hf : ∀ u ∈ us, u < 4294967296) (hb : bs.length + us.length * 8 ≤ 1000000000) (h : SatL w L) (gb : Gives L (RdB v bs)) (gu : Gives L (RdU vu us)) :
    Calls Try.prog 47 #[v, .int .i64 4, vu] w (Ret (PutPost 5 L (bs ++ us.flatMap (lowb 4)))) :=
  putle_ok (k := 4) (.inr (.inr (.inl rfl))) (fitsIn_32 hf) hb h gb gu

theorem crc1 {v : Value} {l : List UInt8} {T2 : Nat} (h : SatL w (SlB T v l :: L)) :
    Calls Try.prog 39 #[.slice (some ⟨w.heap.size, 0, none⟩) 1 1] (w.alloc (.cells #[v] T2)) fun e w' => e = .returned (.int .u32 (crcN l : Nat)) ∧ w.alloc (.cells #[v] T2) = w' := by
  have h2 := h.alloc (.cells #[v] T2)
  have := crc_ok (RdRows.one (c := 1) h2 (SlB.rd (h2.pull 1 : SatL _ (SlB _ _ _ :: _))) (by omega) (by omega))
  rw [show [l].flatten = l by simp] at this
  exact this
theorem bvs_zeros (n : Nat) : bvs (List.replicate n 0) = List.replicate n (.int .u8 0) := by rw [bvs, List.map_replicate]; rfl
theorem body_of {v : Value} {b i : Nat} (h : SatL w (Sl T v (bvs (supHead b i) ++ List.replicate 492 (.int .u8 0)) :: L)) : SatL w (SlB T v (supBody b i) :: L) := by
  unfold supBody
  refine SlB.app ?_
  rw [bvs_zeros]
  exact h

abbrev wordCells : Array Value := #[.int .u8 85, .int .u8 78, .int .u8 68, .int .u8 67, .int .u8 82, .int .u8 79, .int .u8 70, .int .u8 49]
theorem wordCells_eq : wordCells = (bvs word8).toArray := by rfl

theorem u32_in (n : Nat) (h : n < 4294967296) : IntKind.u32.wrap (n : Int) = n := by rw [IntKind.wrap_u32']; omega
theorem u64_in (n : Nat) (h : n < 18446744073709551616) : IntKind.u64.wrap (n : Int) = n := by rw [IntKind.wrap_u64]; omega

set_option maxRecDepth 100000 in
set_option maxHeartbeats 2000000 in
theorem encode_ok (h : SatL w L) (b i : Nat) (hb : b < 4294967296) (hi : i < 4294967296) (t d : Int) :
    Calls Try.prog 27 #[planV b i t d] w (Ret fun v w' => SatL w' (SlB 5 v (encB b i) :: L)) := by
  have w1 := u32_in b hb
  have w2 := u32_in i hi
  have w3 := u64_in b (by omega)
  have w4 := u64_in i (by omega)
  have k1 := h.alloc (.cells #[.int .i64 b, .int .i64 i, .int .i64 1, .int .i64 2, .int .i64 68, .int .i64 69, .int .i64 t, .int .i64 d] 30)
  have k2 := k1.allocN (n := w.heap.size + 1) (.cells wordCells 5 (8, 9)) (by simp)
  have k3 := k2.allocN (n := w.heap.size + 1 + 1) (.cells #[u64v b, u64v i] 76) (by simp)
  have hp1 := putle4 (us := [b, i]) (by simp; omega) (by simp [word8]) k3
    (fun w' h' => (RdB.ofPt (n := 8) (l := word8) (c := 8) (h'.pull 1 : SatL w' (pt _ _ :: _)) wordCells_eq rfl (by omega) (by omega)))
    (fun w' h' => (RdU.ofCl (n := 2) (l := [b, i]) (c := 2) h' rfl rfl (by omega) (by omega)))
  have e1 : word8 ++ [b, i].flatMap (lowb 4) = supHead b i := by simp [supHead]
  rw [e1] at hp1
  have kc := Lib.run_convert_bytes_const (P := Try.prog) (w.alloc (.cells #[.int .i64 b, .int .i64 i, .int .i64 1, .int .i64 2, .int .i64 68, .int .i64 69, .int .i64 t, .int .i64 d] 30)) 23 5 wordCells 8 8 Try.underlying23 Try.underlying5
  rw [show (w.alloc (.cells #[.int .i64 b, .int .i64 i, .int .i64 1, .int .i64 2, .int .i64 68, .int .i64 69, .int .i64 t, .int .i64 d] 30)).heap.size = w.heap.size + 1 by simp] at kc
  rw [show wordCells.size = 8 from rfl] at kc
  unfold planV
  clear k1 k2 k3 h
  have hui : Try.prog.underlying 3 = some (.int .i64) := Try.underlying3
  have b8 : 0 < 1 := by omega
  have bz : ((bvs (supHead b i)).length + 492) * 1 ≤ 140737488355328 := by rw [bvs_len, supHead_len]; omega
  have hC := crcN_lt (supBody b i)
  have w5 := u64_in (crcN (supBody b i)) (by omega)
  have hput : ∀ (w6 : World) (v : Value) (P : HP) (L : List HP), SatL (w6.alloc (.cells #[v] 23)) (P :: SlB 5 v (supBody b i) :: L) →
      Calls Try.prog 47 #[v, .int .i64 4, .slice (some ⟨w6.heap.size + 1, 0, none⟩) 1 1] ((w6.alloc (.cells #[v] 23)).alloc (.cells #[u64v (crcN (supBody b i))] 76)) (Ret (PutPost 5 (pt (w6.heap.size + 1) (.cells #[u64v (crcN (supBody b i))] 76) :: P :: SlB 5 v (supBody b i) :: L) (encB b i))) := by
    intro w6 v P L h6
    have h7 := h6.allocN (n := w6.heap.size + 1) (.cells #[u64v (crcN (supBody b i))] 76) (by simp)
    have := putle4 (us := [crcN (supBody b i)]) (by simp; exact hC) (by rw [supBody_len]; simp) h7 (fun w' h' => SlB.rd (h'.pull 2 : SatL w' (SlB _ _ _ :: _)))
      (fun w' h' => (RdU.ofCl (n := 1) (l := [crcN (supBody b i)]) (c := 1) h' rfl rfl (by omega) (by omega)))
    have e : supBody b i ++ [crcN (supBody b i)].flatMap (lowb 4) = encB b i := by simp [encB]
    rw [e] at this
    exact this
  have t0 : True := trivial
  go_enter Try.func27, Try.ntmps27
  go_wp2_with (first
    | (have _t := t0; go_at_call 47; (with_reducible refine hp1.mono ?_); rintro e w5 ⟨v, rfl, v1, rfl, hs1⟩; clear t0; obtain ⟨a1, c1, rfl, q1, q2⟩ := Sl.valn hs1 (m := 16) (by simp [supHead_len]))
    | (at_builtin; refine wpList_appendz_sl rfl (.tmp 20) (.tmp 23) rfl elem_byte hui rfl hs1 (m := 492) rfl b8 bz ?_; intro v2 w6 h6; have hs2 := body_of h6; obtain ⟨a2, c2, rfl, q3, q4⟩ := Sl.valn hs2 (m := 508) (by rw [bvs_len, supBody_len]); have hcr := crc1 (T2 := 23) hs2; have hs3 := hs2.alloc (.cells #[.slice a2 508 c2] 23); have hp2 := hput _ _ _ _ hs3)
    | (go_at_call 39; (with_reducible refine hcr.mono ?_); rintro e w7 ⟨rfl, rfl⟩)
    | (go_at_call 47; (with_reducible refine hp2.mono ?_); rintro e w8 ⟨v, rfl, v3, rfl, hs4⟩))
  go_ret
  have hs5 : SatL w8 (SlB 5 v3 (encB b i) :: L) := hs4.to
  exact Ret.mk hs5
end
end Go.Proofs.Ytgbaigbplaoeaaa
