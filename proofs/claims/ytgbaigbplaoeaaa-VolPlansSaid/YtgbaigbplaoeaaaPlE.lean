/- The contracts of VolPlans for all arguments. No condition beside the sizes. -/
import Derived.Test.YtgbaigbplaoeaaaPlD
import Derived.Test.YtgbaigbplaoeaaaArg
namespace Go.Proofs.Ytgbaigbplaoeaaa
set_option linter.unusedVariables false
set_option linter.unusedSimpArgs false
open Go.RowKit
/-- the value v reads as these bytes (an empty slice may lie anywhere) -/
def RdV (v : Value) (l : List UInt8) (w : World) : Prop :=
  (v = .slice none 0 0 ∧ l = []) ∨ ∃ A c, v = .slice (some A) l.length c ∧ l.length ≤ c ∧ c ≤ 9223372036854775807 ∧ (0 < l.length → ∃ b off, A = ⟨b, off, none⟩ ∧ ∀ i, i < l.length → w.cell? ⟨b, off + i, none⟩ = some (.int .u8 (((l.getD i 0).toNat : Nat) : Int)))
theorem RdV.b {v : Value} {l : List UInt8} {w : World} (h : RdV v l w) (hl : 0 < l.length) : RdB v l w := by
  rcases h with h | ⟨A, c, h0, h1, h2, h3⟩
  · exact .inl h
  · obtain ⟨b, off, rfl, h4⟩ := h3 hl
    exact .inr ⟨b, off, c, h0, h1, h2, h4⟩
theorem RdV.valn {w : World} {v : Value} {l : List UInt8} (h : RdV v l w) : ∃ a c, v = .slice a l.length c ∧ l.length ≤ c ∧ c ≤ 9223372036854775807 := by
  rcases h with ⟨rfl, rfl⟩ | ⟨A, c, rfl, h1, h2, _⟩
  · exact ⟨none, 0, rfl, by simp, by omega⟩
  · exact ⟨_, c, rfl, h1, h2⟩
theorem SrcOk.ofRdV {w : World} {v : Value} {l : List UInt8} (h : RdV v l w) : SrcOk Try.prog 23 1 w v l.length (bvs l) := by
  rcases Nat.eq_zero_or_pos l.length with h0 | h0
  · refine ⟨by simp, ?_⟩
    rcases h with ⟨rfl, rfl⟩ | ⟨A, c, rfl, h1, h2, h3⟩
    · exact .inl ⟨rfl, rfl, 5, by kernel_rfl⟩
    · refine .inr (.inl ⟨_, _, rfl, ⟨5, by kernel_rfl⟩, fun j y hy => ?_⟩)
      have hj : j < l.length := by have := (List.getElem?_eq_some_iff.1 hy).1; simpa using this
      omega
  · exact SrcOk.ofRdB (h.b h0)
theorem RdV.conv {w : World} {v : Value} {l : List UInt8} (h : RdV v l w) : (convert 23 9 v).run Try.prog w = .ok (.string ⟨l.toArray⟩) w := by
  rcases Nat.eq_zero_or_pos l.length with h0 | h0
  · obtain rfl : l = [] := List.eq_nil_of_length_eq_zero h0
    rcases h with ⟨rfl, _⟩ | ⟨A, c, rfl, h1, h2, h3⟩
    · exact RdB.conv (.inl ⟨rfl, rfl⟩)
    · rw [run_convert_bytes_string w 23 9 5 (some A) _ c Try.underlying23 Try.underlying5 (by kernel_rfl)]
      rfl
  · exact (h.b h0).conv
theorem RdV.old {w0 : World} {v : Value} {l : List UInt8} (h : RdV v l w0) : Gives [old w0] (RdV v l) := fun w hw => by
  rcases h with h | ⟨b, c, h0, h1, h2, h3⟩
  · exact .inl h
  · exact .inr ⟨b, c, h0, h1, h2, fun hl => by obtain ⟨bb, o, e, h4⟩ := h3 hl; exact ⟨bb, o, e, fun i hi => hw.oldCell (h4 i hi)⟩⟩
theorem RdV.alloc {w : World} {v : Value} {l : List UInt8} (h : RdV v l w) (o : Obj) : RdV v l (w.alloc o) := by
  rcases h with h | ⟨A, c, h0, h1, h2, h3⟩
  · exact .inl h
  · refine .inr ⟨A, c, h0, h1, h2, fun h4 => ?_⟩
    obtain ⟨b, off, e, h5⟩ := h3 h4
    exact ⟨b, off, e, fun i hi => Lib.cell?_alloc_marked _ (h5 i hi)⟩
theorem Gives.nx {L : List HP} {X : HP} {F : World → Prop} (g : Gives L F) : Gives (X :: L) F := fun w h => g w (SatL.tail h)
theorem Rd.u8s {w : World} {cs : List Value} (h : Rd Try.prog w 23 cs) : ∃ v bs, cs = [v] ∧ RdV v bs w ∧ bs.length ≤ 140737488351232 := by
  rcases Rd.slice Try.underlying23 (of_decide_eq_true (by kernel_rfl)) h with rfl | ⟨b, o, ln, cp, hs, rfl, h1, h2, _⟩
  · exact ⟨_, [], rfl, .inl ⟨rfl, rfl⟩, by simp⟩
  · have hre := Rd.reach (a := some ⟨b, o.1, o.2⟩) (len := ln) (cap := cp) Try.underlying23 h
    have hby : Try.prog.bytesOf 5 = 1 := by kernel_rfl
    rw [hby] at hre
    obtain ⟨A, hA, hb⟩ := Rd.bytes (a := some ⟨b, o.1, o.2⟩) (len := ln) (cap := cp) Try.underlying23 Try.underlying5 (by kernel_rfl) h
    have hl : ((List.range ln).map fun i => UInt8.ofNat (A i)).length = ln := by simp
    refine ⟨_, (List.range ln).map fun i => UInt8.ofNat (A i), rfl, .inr ⟨⟨b, o.1, o.2⟩, cp, by rw [hl], by rw [hl]; exact h1, by unfold maxLen at h2; omega, fun h0 => ?_⟩, by rw [hl]; omega⟩
    rw [hl] at h0 ⊢
    obtain ⟨b', off', e, h3⟩ := hA.2 h0
    refine ⟨b', off', Option.some.inj e, fun i hi => ?_⟩
    have := (h3 i hi).2 0 (.int .u8 (A i : Int)) rfl
    rw [Nat.mul_one, Nat.add_zero] at this
    rw [this]
    simp only [List.getD_eq_getElem?_getD, List.getElem?_map, List.getElem?_range hi, Option.map_some, Option.getD_some]
    have := hb i
    rw [show (UInt8.ofNat (A i)).toNat = A i from by rw [UInt8.toNat_ofNat']; exact Nat.mod_eq_of_lt this]
theorem Rd.u32 {w : World} {cs : List Value} (h : Rd Try.prog w 41 cs) : ∃ n : Nat, cs = [.int .u32 (n : Int)] ∧ n < 4294967296 := by
  obtain ⟨n, rfl, h1, h2⟩ := Rd.int Try.underlying41 h
  have h3 : 0 ≤ n := h1
  have h4 : n ≤ 4294967295 := h2
  exact ⟨n.toNat, by rw [Int.toNat_of_nonneg h3], by omega⟩
def decVx (bs : List UInt8) : Value := if bs.length = 512 then decV bs else noplan
def decEx (bs : List UInt8) : Int := if bs.length = 512 then decE bs else 14
def mkLx (b i : Int) (sec nsec : Nat) : List (Int × List UInt8) := if planErr b i = 0 then mkfsL b.toNat i.toNat sec nsec else []
theorem decVx_form (bs : List UInt8) : ∃ x0 x1 x2 x3 x4 x5 x6 x7 : Int, decVx bs = .agg #[.int .i64 x0, .int .i64 x1, .int .i64 x2, .int .i64 x3, .int .i64 x4, .int .i64 x5, .int .i64 x6, .int .i64 x7] := by
  unfold decVx decV
  split
  · split
    · exact ⟨_, _, _, _, _, _, _, _, rfl⟩
    · exact ⟨_, _, _, _, _, _, _, _, rfl⟩
  · exact ⟨_, _, _, _, _, _, _, _, rfl⟩
theorem planErr_nats {b i : Int} (h : planErr b i = 0) : ∃ bn iN : Nat, b = bn ∧ i = iN ∧ planGood bn iN ∧ bn < 4294967296 ∧ iN < 4294967296 ∧ planSup b i = planV b i (tableOf b) (dataOf b i) := by
  have hg : planGood b i := by
    unfold planErr at h
    split at h
    · assumption
    · cases h
  have hs : planSup b i = planV b i (tableOf b) (dataOf b i) := by unfold planSup; rw [if_pos h]
  obtain ⟨g1, g2, g3, g4, g5⟩ := id hg
  refine ⟨b.toNat, i.toNat, by omega, by omega, ?_, by omega, by omega, hs⟩
  rw [Int.toNat_of_nonneg (by omega), Int.toNat_of_nonneg (by omega)]
  exact hg
section
variable {w : World} {L : List HP}
theorem Sl_new0 {nb : Nat} (hnb : nb = w.heap.size) (h : SatL w L) : SatL (w.alloc (.cells #[] 5)) (SlK 5 1 (.slice (some ⟨nb, 0, none⟩) 0 0) 0 [] :: L) := by
  subst hnb
  exact sat_SlK.2 (.inr ⟨w.heap.size, 0, 0, #[], ⟨rfl, Nat.le_refl _, by decide, rfl, by simp, rfl⟩, h.alloc _⟩)
/-- append([]byte{}, x...) of whatever came in -/
theorem wpList_newcopyL {ops : Array Oper} {rest : List Oper} {o : Oper} {a : Act} {Q : Exit → Act → World → Prop} {nb : Nat} (hnb : nb = w.heap.size) (hgd : o.guard = none) (s x : Operand)
    (ho : o.op = .call { callee := .builtin .append, args := #[s, x], argTypes := #[23, 23] }) (hs : a.eval s = .slice (some ⟨nb, 0, none⟩) 0 0) {v : Value} (hy : a.eval x = v)
    (h : SatL w L) {l : List UInt8} {n : Nat} (hln : l.length = n) (g : RdV v l w) (hl : n ≤ 140737488351232) (K : ∀ a' c' w', n ≤ c' → SatL w' (SlB 5 (.slice a' n c') l :: L) → wpList Try.prog ops Q rest (a.put o.dst (.slice a' n c')) w') :
    wpList Try.prog ops Q (o :: rest) a (w.alloc (.cells #[] 5)) := by
  subst hnb; subst hln
  refine wpList_append_sl hgd s x ho elem_byte hs (Sl_new0 rfl h) hy (SrcOk.ofRdV (RdV.alloc g _)) (bvs_one l) (by omega) (by unfold maxLen; omega) ?_
  intro v' w' h8 _
  have h9 : SatL w' (SlB 5 v' l :: L) := by simpa using Sl.ofK h8
  obtain ⟨a, c, rfl, h1, _⟩ := Sl.valn h9 (m := l.length) (by rw [bvs_len])
  exact K a c w' h1 h9
theorem decPx {v : Value} {bs : List UInt8} (h : SatL w (SlB 5 v bs :: L)) : Calls Try.prog 11 #[v] w (Ret fun r w' => r = .tuple #[decVx bs, .int .i64 (decEx bs)] ∧ SatL w' (SlB 5 v bs :: L)) := by
  unfold decVx decEx
  by_cases hl : bs.length = 512
  · rw [if_pos hl, if_pos hl]; exact decode_ok hl h
  · rw [if_neg hl, if_neg hl]
    obtain ⟨a, c, rfl, _, _⟩ := Sl.valn h (m := bs.length) (by rw [bvs_len])
    exact decP_no hl h
theorem decRx {v : Value} {bs : List UInt8} (h : SatL w L) (g : Gives L (RdV v bs)) : Calls Try.prog 12 #[v] w (Ret fun r w' => r = .tuple #[decVx bs, .int .i64 (decEx bs)] ∧ SatL w' L) := by
  unfold decVx decEx
  by_cases hl : bs.length = 512
  · rw [if_pos hl, if_pos hl]; exact refdecodeR_ok hl h (fun w h => (g w h).b (by omega))
  · rw [if_neg hl, if_neg hl]
    obtain ⟨a, c, rfl, _, _⟩ := (g w h).valn
    exact decR_no hl h
theorem mkPx (b i : Int) {sec nsec : Nat} (hse : sec < 4294967296) (hns : nsec < 4294967296) (h : SatL w L) :
    Calls Try.prog 28 #[.int .i64 b, .int .i64 i, .agg #[.int .u32 sec, .int .u32 nsec]] w (Ret fun v w' => ∃ lv, v = .tuple #[lv, .int .i64 (planErr b i)] ∧ SatL w' (PutsL lv (mkLx b i sec nsec) :: L)) := by
  unfold mkLx
  by_cases he : planErr b i = 0
  · rw [if_pos he, he]
    obtain ⟨bn, iN, rfl, rfl, hg, _⟩ := planErr_nats he
    exact mkfsP_ok hg he hse hns h
  · rw [if_neg he]
    refine (mkfsP_no he h).mono ?_
    rintro e w' ⟨v, rfl, rfl, hs⟩
    exact ⟨_, rfl, _, rfl, PutsL.nil hs⟩
theorem mkRx (b i : Int) {sec nsec : Nat} (hse : sec < 4294967296) (hns : nsec < 4294967296) (h : SatL w L) :
    Calls Try.prog 29 #[.int .i64 b, .int .i64 i, .agg #[.int .u32 sec, .int .u32 nsec]] w (Ret fun v w' => ∃ lv, v = .tuple #[lv, .int .i64 (planErr b i)] ∧ SatL w' (PutsL lv (mkLx b i sec nsec) :: L)) := by
  unfold mkLx
  by_cases he : planErr b i = 0
  · rw [if_pos he, he]
    obtain ⟨bn, iN, rfl, rfl, hg, _⟩ := planErr_nats he
    exact mkfs_ok hg he hse hns h
  · rw [if_neg he]
    refine (mkfsR_no he h).mono ?_
    rintro e w' ⟨v, rfl, rfl, hs⟩
    exact ⟨_, rfl, _, rfl, PutsL.nil hs⟩
theorem sameLx {av bv : Value} {l : List (Int × List UInt8)} (h : SatL w (PutsL av l :: PutsL bv l :: L)) :
    Calls Try.prog 30 #[av, bv] w (Ret fun r w' => r = .bool true ∧ SatL w' L) := by
  obtain ⟨ps, hps, h1⟩ := sat_PutsL.1 h
  obtain ⟨qs, hqs, h2⟩ := sat_PutsL.1 h1.swap
  refine (sameputs9_ok (hps.trans hqs.symm) h2.swap).mono ?_
  rintro e w' ⟨v, rfl, rfl, hs⟩
  exact ⟨_, rfl, rfl, hs.tail.tail⟩
end
end Go.Proofs.Ytgbaigbplaoeaaa
