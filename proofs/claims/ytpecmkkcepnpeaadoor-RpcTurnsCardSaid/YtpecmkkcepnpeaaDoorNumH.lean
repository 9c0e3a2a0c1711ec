/- What owned rows read as; laying down numbers of four bytes; strings of bytes. No condition beside the sizes that each names. -/
import Derived.Test.YtpecmkkcepnpeaaDoorNumF
import Derived.Test.YtpecmkkcepnpeaaDoorApp
import Derived.Test.YtpecmkkcepnpeaaDoorConst
import Derived.Lib.SlBytesConst
namespace Go.Proofs.YtpecmkkcepnpeaaDoor
set_option linter.unusedVariables false
set_option linter.unusedSimpArgs false
open Go.RowKit

abbrev u64v (n : Nat) : Value := .int .u64 (n : Int)
section
variable {w : World} {L : List HP} {T : Nat}
theorem SatL.cellPt {b i : Nat} {fr : Nat × Nat} {cs : Array Value} {v : Value} (h : SatL w (pt b (.cells cs T fr) :: L)) (hv : cs[i]? = some v) : w.cell? ⟨b, i, none⟩ = some v := by
  have := h.heap
  simp [World.cell?, this, hv]
theorem RdB.ofPt {b c n : Nat} {fr : Nat × Nat} {l : List UInt8} {cs : Array Value} (h : SatL w (pt b (.cells cs T fr) :: L)) (hcs : cs = (bvs l).toArray) (hn : n = l.length) (hc : n ≤ c) (hc2 : c ≤ 9223372036854775807) : RdB (.slice (some ⟨b, 0, none⟩) n c) l w := by
  subst hcs; subst hn
  refine .inr ⟨b, 0, c, rfl, hc, hc2, fun i hi => ?_⟩
  rw [Nat.zero_add]
  exact h.cellPt (by simp [List.getD, hi])
theorem RdU.ofCl {b c n : Nat} {l : List Nat} {cs : Array Value} (h : SatL w (cl b T cs :: L)) (hcs : cs = (l.map u64v).toArray) (hn : n = l.length) (hc : n ≤ c) (hc2 : c ≤ 9223372036854775807) : RdU (.slice (some ⟨b, 0, none⟩) n c) l w := by
  subst hcs; subst hn
  refine .inr ⟨b, 0, c, rfl, hc, hc2, fun i hi => ?_⟩
  rw [Nat.zero_add]
  exact h.cell (by simp [List.getD, hi])
theorem RdRows.one {b c : Nat} {v : Value} {l : List UInt8} (h : SatL w (cl b T #[v] :: L)) (hv : RdB v l w) (hc : 1 ≤ c) (hc2 : c ≤ 9223372036854775807) : RdRows (.slice (some ⟨b, 0, none⟩) 1 c) [l] w := by
  refine .inr ⟨b, 0, c, rfl, hc, hc2, fun i hi => ?_⟩
  obtain rfl : i = 0 := by simp at hi; omega
  exact ⟨v, h.cell (i := 0) rfl, hv⟩
theorem fitsIn_32 {us : List Nat} (h : ∀ u ∈ us, u < 4294967296) : fitsIn 4 us := by
  intro i hi
  have e : (256 : Nat) ^ 4 = 4294967296 := by decide
  rw [e]
  simp only [List.getD, List.getElem?_eq_getElem hi, Option.getD_some]
  exact h _ (List.getElem_mem hi)

theorem bvs_zeros (n : Nat) : bvs (List.replicate n 0) = List.replicate n (.int .u8 0) := by rw [bvs, List.map_replicate]; rfl
theorem u32_in (n : Nat) (h : n < 4294967296) : IntKind.u32.wrap (n : Int) = n := by rw [IntKind.wrap_u32']; omega
theorem u64_in (n : Nat) (h : n < 18446744073709551616) : IntKind.u64.wrap (n : Int) = n := by rw [IntKind.wrap_u64]; omega


/-- string(b) in whatever world holds the bytes -/
theorem convB {b off n c : Nat} {l : List UInt8} (hl : l.length = n) (h : SatL w (SlB 5 (.slice (some ⟨b, off, none⟩) n c) l :: L)) :
    (convert 27 9 (.slice (some ⟨b, off, none⟩) n c)).run Tryd.prog w = .ok (.string ⟨l.toArray⟩) w := by
  subst hl
  exact run_convert_bytes_back (P := Tryd.prog) w 27 9 5 ⟨b, off, none⟩ c l Tryd.underlying27 Tryd.underlying5 (by kernel_rfl) (by
    intro j hj
    rw [addr_add, SlB.cell h (i := j) hj]
    congr 3
    rw [List.getD_eq_getElem?_getD, List.getElem?_eq_getElem hj]
    rfl)
/-- string(b) of whatever reads as bytes -/
theorem RdB.conv {v : Value} {l : List UInt8} (h : RdB v l w) : (convert 27 9 v).run Tryd.prog w = .ok (.string ⟨l.toArray⟩) w := by
  rcases h with ⟨rfl, rfl⟩ | ⟨b, off, c, rfl, h1, h2, h3⟩
  · rw [run_convert_bytes_string w 27 9 5 none 0 0 Tryd.underlying27 Tryd.underlying5 (by kernel_rfl)]
    rfl
  · exact run_convert_bytes_back (P := Tryd.prog) w 27 9 5 ⟨b, off, none⟩ c l Tryd.underlying27 Tryd.underlying5 (by kernel_rfl) (by
      intro j hj
      rw [addr_add, h3 j hj]
      congr 3
      rw [List.getD_eq_getElem?_getD, List.getElem?_eq_getElem hj]
      rfl)
theorem strEq_iff (a b : List UInt8) : ((⟨a.toArray⟩ : ByteArray) = ⟨b.toArray⟩) ↔ a = b := by
  constructor
  · intro e
    injection e with e
    have := congrArg Array.toList e
    simpa using this
  · rintro rfl; rfl

/-- the bytes of a string, as they are read -/
def RoB (T : Nat) (v : Value) (l : List UInt8) : HP := ex fun b => ex fun c => ex fun (cs : Array Value) => ex fun fr =>
  sep [pur (v = .slice (some ⟨b, 0, none⟩) l.length c ∧ l.length ≤ c ∧ c ≤ 9223372036854775807 ∧ cs.toList.take l.length = bvs l), pt b (.cells cs T fr)]
theorem sat_RoB {T : Nat} {v : Value} {l : List UInt8} : SatL w (RoB T v l :: L) ↔ ∃ b c cs fr, (v = .slice (some ⟨b, 0, none⟩) l.length c ∧ l.length ≤ c ∧ c ≤ 9223372036854775807 ∧ cs.toList.take l.length = bvs l) ∧ SatL w (pt b (.cells cs T fr) :: L) := by
  simp only [RoB, sat_ex, sat_sep, List.cons_append, List.nil_append, sat_pur]
theorem RoB.rd {T : Nat} {v : Value} {l : List UInt8} (h : SatL w (RoB T v l :: L)) : RdB v l w := by
  obtain ⟨b, c, cs, fr, ⟨rfl, h1, h2, h3⟩, hs⟩ := sat_RoB.1 h
  refine .inr ⟨b, 0, c, rfl, h1, h2, fun i hi => ?_⟩
  rw [Nat.zero_add]
  refine hs.cellPt ?_
  have h4 := bvs_get (l := l) (i := i) (b := l.getD i 0) (by rw [List.getElem?_eq_getElem hi]; simp [List.getD, hi])
  rw [← h3, List.getElem?_take, if_pos hi] at h4
  simpa using h4
theorem wpList_strbytes_sl {ops : Array Oper} {rest : List Oper} {o : Oper} {a : Act} {Q : Exit → Act → World → Prop} (hgd : o.guard = none) (x : Operand)
    (ho : o.op = .convert 9 27 x) {s : List UInt8} {y : ByteArray} (hx : a.eval x = .string y) (hy : y = ⟨s.toArray⟩) (hl : s.length ≤ 1000000) (h : SatL w L)
    (K : ∀ v' w', SatL w' (RoB 5 v' s :: L) → wpList Tryd.prog ops Q rest (a.put o.dst v') w') : wpList Tryd.prog ops Q (o :: rest) a w :=
  wpList_plain hgd fun _ hK => by
    subst hy
    have hr := run_bytes_of_string (P := Tryd.prog) w 9 27 5 ⟨s.toArray⟩ (by kernel_rfl) Tryd.underlying27 Tryd.underlying5
    have hsz : (⟨s.toArray⟩ : ByteArray).size = s.length := by show s.toArray.size = _; simp
    rw [hsz] at hr
    have hge : s.length ≤ grownCap w s.length 0 5 := grownCap_ge w s.length 0 5
    have hle := grownCap_le_maxLen w s.length 0 5 (by unfold maxLen; omega)
    unfold maxLen at hle
    unfold Oper.wp execOp
    simp only [ho, hx, hr, Sem.run_bind, Sem.run_pure, Result.andThen_ok]
    refine hK _ _ (K _ _ (sat_RoB.2 ⟨w.heap.size, _, _, _, ⟨rfl, hge, hle, ?_⟩, h.alloc _⟩))
    unfold bytesRow
    rw [Array.toList_append, List.take_append_of_le_length (by simp), List.take_of_length_le (by simp)]
    simp [bv]
end
end Go.Proofs.YtpecmkkcepnpeaaDoor
