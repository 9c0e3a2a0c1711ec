/- What a head and an end say; a group that was recorded is recovered; the plain law. No condition. -/
import Derived.Test.YtjjnadlklfegcaaWalLog
namespace Go.Proofs.Ytjjnadlklfegcaa
set_option linter.unusedVariables false
set_option linter.unusedSimpArgs false
open Go.RowKit

theorem numAt_of {b c : List UInt8} {i k v : Nat} (h : b.drop i = lowb k v ++ c) : numAt b i k = v % 256 ^ k := by
  unfold numAt
  rw [h]
  have : (lowb k v ++ c).take k = lowb k v := by
    conv => lhs; rw [show k = (lowb k v).length from (lowb_len k v).symm]
    rw [lowb_len]
    have := List.take_left (l₁ := lowb k v) (l₂ := c)
    rwa [lowb_len] at this
  rw [this, leN_lowb]
theorem drop_at {a c : List UInt8} {i : Nat} (h : a.length = i) : (a ++ c).drop i = c := by subst h; exact List.drop_left
theorem flatMap_drop (us : List Nat) : ∀ (i : Nat) (h : i < us.length), (us.flatMap (lowb 4)).drop (4 * i) = lowb 4 us[i] ++ (us.drop (i + 1)).flatMap (lowb 4) := by
  induction us with
  | nil => intro i h; simp at h
  | cons u us ih =>
    intro i h
    cases i with
    | zero => simp
    | succ i =>
      rw [List.flatMap_cons, show 4 * (i + 1) = (lowb 4 u).length + 4 * i by rw [lowb_len]; omega, List.drop_length_add_append]
      exact ih i (by simpa using h)
theorem headB_eq (seq : Nat) (l : List PD) : headB seq l = wordH ++ (lowb 8 seq ++ ((places l).flatMap (lowb 4) ++ (List.replicate (508 - (headTop seq l).length) 0 ++ lowb 4 (crcN (headBody seq l))))) := by
  simp [headB, headBody, headTop, List.append_assoc]
theorem head_word (seq : Nat) (l : List PD) : (headB seq l).take 8 = wordH := by rw [headB_eq]; rfl
theorem pow256_8 : (256 : Nat) ^ 8 = 18446744073709551616 := by decide
theorem pow256_4 : (256 : Nat) ^ 4 = 4294967296 := by decide
theorem head_seq {seq : Nat} (hs : seq < 18446744073709551616) (l : List PD) : numAt (headB seq l) 8 8 = seq := by
  rw [headB_eq, numAt_of (i := 8) (k := 8) (v := seq) (drop_at (a := wordH) rfl), pow256_8, Nat.mod_eq_of_lt hs]
theorem head_at {seq : Nat} (l : List PD) {i : Nat} (hi : i < (places l).length) : numAt (headB seq l) (16 + 4 * i) 4 = (places l)[i] % 4294967296 := by
  rw [headB_eq, ← List.append_assoc]
  have h16 : (wordH ++ lowb 8 seq).length = 16 := by rw [List.length_append, lowb_len]; rfl
  have hd : ((wordH ++ lowb 8 seq) ++ ((places l).flatMap (lowb 4) ++ (List.replicate (508 - (headTop seq l).length) 0 ++ lowb 4 (crcN (headBody seq l))))).drop (16 + 4 * i) = lowb 4 (places l)[i] ++ (((places l).drop (i + 1)).flatMap (lowb 4) ++ (List.replicate (508 - (headTop seq l).length) 0 ++ lowb 4 (crcN (headBody seq l)))) := by
    rw [← List.drop_drop, drop_at h16, List.drop_append_of_le_length (by rw [flatMap_lowb4_len]; omega), flatMap_drop _ i hi, List.append_assoc]
  rw [numAt_of hd, pow256_4]
theorem head_count {seq : Nat} {l : List PD} (h : l.length ≤ 64) : numAt (headB seq l) 16 4 = l.length := by
  have := head_at (seq := seq) l (i := 0) (by simp [places])
  rw [show 16 + 4 * 0 = 16 from rfl] at this
  rw [this]
  have : (places l)[0]'(by simp [places]) = l.length := rfl
  rw [this, Nat.mod_eq_of_lt (by omega)]
theorem head_place {seq : Nat} {l : List PD} {i : Nat} {p : PD} (hp : l[i]? = some p) (h0 : 0 ≤ p.1 ∧ p.1 ≤ 4294967295) : ((numAt (headB seq l) (20 + 4 * i) 4 : Nat) : Int) = p.1 := by
  have hi : i < l.length := (List.getElem?_eq_some_iff.1 hp).1
  have e : l[i] = p := (List.getElem?_eq_some_iff.1 hp).2
  have := head_at (seq := seq) l (i := i + 1) (by simp [places]; exact hi)
  rw [show 16 + 4 * (i + 1) = 20 + 4 * i by omega] at this
  rw [this]
  have e2 : (places l)[i + 1]'(by simp [places]; exact hi) = p.1.toNat := by simp [places, e]
  rw [e2]
  omega
theorem head_sum {seq : Nat} {l : List PD} (h : l.length ≤ 64) : numAt (headB seq l) 508 4 = crcN ((headB seq l).take 508) := by
  have e : (headB seq l).take 508 = headBody seq l := by
    unfold headB
    have := List.take_left (l₁ := headBody seq l) (l₂ := lowb 4 (crcN (headBody seq l)))
    rwa [headBody_len h] at this
  rw [e]
  have hd : (headB seq l).drop 508 = lowb 4 (crcN (headBody seq l)) ++ [] := by
    rw [List.append_nil]
    exact drop_at (headBody_len h)
  rw [numAt_of hd, pow256_4, Nat.mod_eq_of_lt (crcN_lt _)]

theorem endOf_eq (seq c : Nat) : endOf seq c = wordT ++ (lowb 8 seq ++ (lowb 4 c ++ List.replicate 492 0)) := by rw [endOf, endTop, List.append_assoc, List.append_assoc]
theorem end_word (seq c : Nat) : (endOf seq c).take 8 = wordT := by rw [endOf_eq]; rfl
theorem end_seq {seq c : Nat} (hs : seq < 18446744073709551616) : numAt (endOf seq c) 8 8 = seq := by
  rw [endOf_eq, numAt_of (i := 8) (k := 8) (v := seq) (drop_at (a := wordT) rfl), pow256_8, Nat.mod_eq_of_lt hs]
theorem end_sum {seq c : Nat} (hc : c < 4294967296) : numAt (endOf seq c) 16 4 = c := by
  rw [endOf_eq, ← List.append_assoc]
  have h16 : (wordT ++ lowb 8 seq).length = 16 := by rw [List.length_append, lowb_len]; rfl
  rw [numAt_of (drop_at h16), pow256_4, Nat.mod_eq_of_lt hc]

/-- the rows of a log that hold a head and its blocks -/
theorem take_rows {b : List UInt8} {n : Nat} (h : 512 * n ≤ b.length) : b.take (512 * n) = ((List.range n).map (rowAt b)).flatten := (rowAt_flatten n h).symm
theorem take_group {b : List UInt8} {n : Nat} {H : List UInt8} {ds : List (List UInt8)} (h : 512 * (1 + n) ≤ b.length) (h0 : rowAt b 0 = H) (hd : ∀ i, i < n → ds[i]? = some (rowAt b (1 + i))) (hn : ds.length = n) :
    b.take (512 * (1 + n)) = H ++ ds.flatten := by
  rw [take_rows h, Nat.add_comm 1 n, List.range_succ_eq_map, List.map_cons, List.flatten_cons, h0]
  congr 2
  rw [List.map_map]
  apply List.ext_getElem?
  intro i
  by_cases hi : i < n
  · rw [hd i hi, List.getElem?_map, List.getElem?_range hi]
    simp only [Option.map_some, Function.comp]
    rw [Nat.succ_eq_add_one, Nat.add_comm]
  · rw [List.getElem?_eq_none (by simp; omega), List.getElem?_eq_none (by omega)]

theorem inRow_get {n i : Nat} {l : List PD} {p : PD} (h : l[i]? = some p) : (inRow n l)[i]? = some (((n + i : Nat) : Int), p.2) := by
  simp [inRow, h]
theorem inRow_mem {n : Nat} {l : List PD} {q : PD} (h : q ∈ inRow n l) : ∃ i p, l[i]? = some p ∧ q = (((n + i : Nat) : Int), p.2) := by
  obtain ⟨i, hi⟩ := List.getElem?_of_mem h
  have hl : i < l.length := by have := (List.getElem?_eq_some_iff.1 hi).1; rwa [inRow_len] at this
  refine ⟨i, l[i], List.getElem?_eq_getElem hl, ?_⟩
  rw [inRow_get (List.getElem?_eq_getElem hl)] at hi
  exact (Option.some.inj hi).symm

/-- a group's record, laid in a log -/
def recAll (seq : Nat) (l : List PD) : List PD := recRows seq l ++ [recEnd seq l]
theorem recAll_mem {seq : Nat} {l : List PD} {q : PD} (h : q ∈ recAll seq l) : q = (0, headB seq l) ∨ (∃ i p, l[i]? = some p ∧ q = (((1 + i : Nat) : Int), p.2)) ∨ q = (((1 + l.length : Nat) : Int), endB seq l) := by
  unfold recAll recRows recEnd at h
  rcases List.mem_append.1 h with h | h
  · rcases List.mem_cons.1 h with h | h
    · exact .inl h
    · exact .inr (.inl (inRow_mem h))
  · exact .inr (.inr (List.mem_singleton.1 h))
theorem recAll_nodup (seq : Nat) (l : List PD) : ((recAll seq l).map (·.1)).Nodup := by
  have e : (recAll seq l).map (·.1) = (List.range (l.length + 2)).map fun i : Nat => (i : Int) := by
    apply List.ext_getElem?
    intro i
    rw [List.getElem?_map, List.getElem?_map]
    unfold recAll recRows recEnd
    rw [List.cons_append]
    cases i with
    | zero => simp
    | succ i =>
      rw [List.getElem?_cons_succ]
      by_cases hi : i < l.length
      · rw [List.getElem?_append_left (by rw [inRow_len]; exact hi), inRow_get (List.getElem?_eq_getElem hi), List.getElem?_range (by omega)]
        simp; omega
      · by_cases hi2 : i = l.length
        · subst hi2
          rw [List.getElem?_append_right (Nat.le_of_eq (inRow_len _ _)), inRow_len, Nat.sub_self, List.getElem?_range (by omega)]
          simp; omega
        · rw [List.getElem?_eq_none (by rw [List.length_append, inRow_len]; simp; omega), List.getElem?_eq_none (by simp; omega)]
          rfl
  rw [e]
  exact List.Pairwise.map _ (fun a b h => by omega) List.nodup_range
theorem recAll_ok {seq : Nat} {l : List PD} (h : recErr l = 0) : LogOk (recAll seq l) := by
  obtain ⟨h1, h2, h3, _⟩ := recErr_good h
  intro q hq
  rcases recAll_mem hq with rfl | ⟨i, p, hp, rfl⟩ | rfl
  · exact ⟨headB_len h2, by simp, by simp⟩
  · have hi : i < l.length := (List.getElem?_eq_some_iff.1 hp).1
    exact ⟨(h3 p (List.mem_of_getElem? hp)).2.2, by simp; omega, by simp; omega⟩
  · exact ⟨endOf_len _ _, by simp; omega, by simp; omega⟩
theorem groupCrc_lt (seq : Nat) (l : List PD) : groupCrc seq l < 4294967296 := crcN_lt _

/-- a log whose rows are a group's is read as it -/
theorem recov_group {b : List UInt8} {seq : Nat} {l : List PD} (hs : seq < 18446744073709551616) (hb : b.length = 33792) (he : recErr l = 0) (h0 : rowAt b 0 = headB seq l) (hd : ∀ i p, l[i]? = some p → rowAt b (1 + i) = p.2)
    (ht : rowAt b (1 + l.length) = endB seq l) : recov b = (seq, l, 0) := by
  obtain ⟨h1, h2, h3, h4⟩ := recErr_good he
  have hc : countOf b = l.length := by unfold countOf; rw [h0, head_count h2]
  have hseq : seqOf b = seq := by unfold seqOf; rw [h0, head_seq hs]
  have hgot : gotOf b = l := by
    unfold gotOf
    rw [hc]
    apply List.ext_getElem?
    intro i
    by_cases hi : i < l.length
    · have hp : l[i]? = some l[i] := List.getElem?_eq_getElem hi
      have := h3 l[i] (List.getElem_mem hi)
      rw [gotTo, List.getElem?_map, List.getElem?_range hi, hp]
      simp only [Option.map_some, h0]
      rw [head_place hp ⟨this.1, this.2.1⟩, hd i _ hp]
    · rw [List.getElem?_eq_none (by rw [gotTo_len]; omega), List.getElem?_eq_none (by omega)]
  have hhead : headGood b := by
    unfold headGood
    rw [h0, hc]
    exact ⟨head_word _ _, head_sum h2, h1, h2⟩
  have htl : tailOf b = endB seq l := by unfold tailOf; rw [hc, ht]
  have htake : b.take (512 * (1 + l.length)) = headB seq l ++ (l.map (·.2)).flatten := by
    refine take_group (by omega) h0 (fun i hi => ?_) (by simp)
    rw [List.getElem?_map, List.getElem?_eq_getElem hi]
    simp only [Option.map_some]
    rw [hd i _ (List.getElem?_eq_getElem hi)]
  have htail : tailGood b := by
    unfold tailGood
    rw [htl, hseq, hc, htake]
    exact ⟨end_word _ _, end_seq hs, end_sum (groupCrc_lt _ _)⟩
  unfold recov
  rw [if_neg (by omega), if_pos ⟨hhead, htail, by rw [hgot]; exact h4⟩, hseq, hgot]
theorem recov_recorded {seq : Nat} {l : List PD} (hs : seq < 18446744073709551616) (he : recErr l = 0) : recov (logB (recAll seq l)) = (seq, l, 0) := by
  obtain ⟨h1, h2, h3, h4⟩ := recErr_good he
  have hok := recAll_ok (seq := seq) he
  have row : ∀ q ∈ recAll seq l, ∀ r : Nat, q.1 = (r : Int) → r < 66 → rowAt (logB (recAll seq l)) r = q.2 := by
    intro q hq r hr hr2
    rw [rowAt_log hr2 _ hok, lastAt_nodup (recAll_nodup seq l) hq hr]
  refine recov_group hs (logB_len _) he (row (0, headB seq l) (by simp [recAll, recRows]) 0 rfl (by omega)) (fun i p hp => ?_) (row (recEnd seq l) (by simp [recAll]) (1 + l.length) rfl (by omega))
  have hi : i < l.length := (List.getElem?_eq_some_iff.1 hp).1
  exact row (((1 + i : Nat) : Int), p.2) (List.mem_append_left _ (List.mem_cons_of_mem _ (List.mem_of_getElem? (inRow_get hp)))) (1 + i) rfl (by omega)
/-- without its end it is none -/
theorem recov_headless {seq : Nat} {l : List PD} (he : recErr l = 0) : recov (logB (recRows seq l)) = (0, [], 2) := by
  obtain ⟨h1, h2, h3, h4⟩ := recErr_good he
  have hok : LogOk (recRows seq l) := fun q hq => recAll_ok (seq := seq) he q (List.mem_append_left _ hq)
  have hnd : ((recRows seq l).map (·.1)).Nodup := by
    have := recAll_nodup seq l
    unfold recAll at this
    rw [List.map_append] at this
    exact (List.nodup_append.1 this).1
  have h0 : rowAt (logB (recRows seq l)) 0 = headB seq l := by
    rw [rowAt_log (by omega) _ hok, lastAt_nodup hnd (p := (0, headB seq l)) (by simp [recRows]) rfl]
  have hc : countOf (logB (recRows seq l)) = l.length := by unfold countOf; rw [h0, head_count h2]
  have ht : rowAt (logB (recRows seq l)) (1 + l.length) = List.replicate 512 0 := by
    rw [rowAt_log (by omega) _ hok, lastAt_none]
    intro q hq
    unfold recRows at hq
    rcases List.mem_cons.1 hq with rfl | hq
    · simp; omega
    · obtain ⟨i, p, hp, rfl⟩ := inRow_mem hq
      have hi : i < l.length := (List.getElem?_eq_some_iff.1 hp).1
      simp; omega
  have hno : ¬ recovGood (logB (recRows seq l)) := by
    rintro ⟨_, ⟨hw, _⟩, _⟩
    unfold tailOf at hw
    rw [hc, ht] at hw
    have h1 : ((List.replicate 512 (0 : UInt8)).take 8)[0]? = some 0 := by rw [List.getElem?_take, if_pos (by omega), List.getElem?_replicate, if_pos (by omega)]
    rw [hw] at h1
    exact absurd h1 (by decide)
  unfold recov
  rw [if_neg (by rw [logB_len]; omega), if_neg hno]
end Go.Proofs.Ytjjnadlklfegcaa
