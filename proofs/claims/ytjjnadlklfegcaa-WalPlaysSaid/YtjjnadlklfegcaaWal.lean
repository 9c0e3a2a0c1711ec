/- Records of a log: what is written, what is read again; the plain law. No condition. -/
import Derived.Test.YtjjnadlklfegcaaPuts
namespace Go.Proofs.Ytjjnadlklfegcaa
set_option linter.unusedVariables false
set_option linter.unusedSimpArgs false
open Go.RowKit

/-- a block: its place, its bytes -/
abbrev PD := Int × List UInt8
def soundE (p : PD) : Int := if p.1 < 0 ∨ 4294967295 < p.1 then 1 else if p.2.length ≠ 512 then 14 else 0
def recScan : List PD → List PD → Int
  | _, [] => 0
  | seen, p :: l => if soundE p ≠ 0 then soundE p else if p.1 ∈ seen.map (·.1) then 8 else recScan (seen ++ [p]) l
def recErr (l : List PD) : Int := if l = [] then 2 else if 64 < l.length then 4 else recScan [] l

theorem soundE_0 {p : PD} (h : soundE p = 0) : 0 ≤ p.1 ∧ p.1 ≤ 4294967295 ∧ p.2.length = 512 := by
  unfold soundE at h
  split at h
  · omega
  · split at h
    · omega
    · rename_i h1 h2; exact ⟨by omega, by omega, by simpa using h2⟩
theorem soundE_cases (p : PD) : soundE p = 0 ∨ soundE p = 1 ∨ soundE p = 14 := by
  unfold soundE; split
  · exact .inr (.inl rfl)
  · split
    · exact .inr (.inr rfl)
    · exact .inl rfl

theorem recScan_step {l : List PD} {k : Nat} {p : PD} (hp : l[k]? = some p) :
    recScan (l.take k) (l.drop k) = if soundE p ≠ 0 then soundE p else if p.1 ∈ (l.take k).map (·.1) then 8 else recScan (l.take (k + 1)) (l.drop (k + 1)) := by
  have hk : k < l.length := (List.getElem?_eq_some_iff.1 hp).1
  have e : l[k] = p := (List.getElem?_eq_some_iff.1 hp).2
  rw [List.drop_eq_getElem_cons hk, recScan, e]
  have e2 : l.take (k + 1) = l.take k ++ [p] := by rw [List.take_add_one, hp]; rfl
  rw [e2]
theorem recScan_end (l : List PD) : recScan (l.take l.length) (l.drop l.length) = 0 := by
  rw [List.drop_length]; rfl
theorem recScan_good : ∀ {l seen : List PD}, recScan seen l = 0 → (∀ p ∈ l, soundE p = 0) ∧ ∀ p ∈ l, p.1 ∉ seen.map (·.1)
  | [], _, _ => ⟨by simp, by simp⟩
  | p :: l, seen, h => by
    unfold recScan at h
    split at h
    · rename_i h1; exact absurd h h1
    · rename_i h1
      split at h
      · omega
      · rename_i h2
        obtain ⟨i1, i2⟩ := recScan_good h
        refine ⟨fun q hq => ?_, fun q hq => ?_⟩
        · rcases List.mem_cons.1 hq with rfl | hq
          · simpa using h1
          · exact i1 q hq
        · rcases List.mem_cons.1 hq with rfl | hq
          · exact h2
          · intro hm
            exact i2 q hq (by rw [List.map_append]; exact List.mem_append_left _ hm)
theorem recScan_nodup : ∀ {l seen : List PD}, recScan seen l = 0 → (l.map (·.1)).Nodup
  | [], _, _ => by simp
  | p :: l, seen, h => by
    have h0 := h
    unfold recScan at h
    split at h
    · rename_i h1; exact absurd h h1
    · split at h
      · omega
      · rename_i h2
        have i1 := recScan_nodup h
        have i2 := (recScan_good h).2
        rw [List.map_cons, List.nodup_cons]
        refine ⟨fun hm => ?_, i1⟩
        obtain ⟨q, hq, e⟩ := List.mem_map.1 hm
        exact i2 q hq (by rw [List.map_append, e]; simp)
theorem recErr_good {l : List PD} (h : recErr l = 0) : 1 ≤ l.length ∧ l.length ≤ 64 ∧ (∀ p ∈ l, 0 ≤ p.1 ∧ p.1 ≤ 4294967295 ∧ p.2.length = 512) ∧ (l.map (·.1)).Nodup := by
  unfold recErr at h
  split at h
  · omega
  · split at h
    · omega
    · rename_i h1 h2
      have : l.length ≠ 0 := fun e => h1 (List.eq_nil_of_length_eq_zero e)
      exact ⟨by omega, by omega, fun p hp => soundE_0 ((recScan_good h).1 p hp), recScan_nodup h⟩

def wordH : List UInt8 := [71, 82, 78, 72, 69, 65, 68, 49]
def wordT : List UInt8 := [71, 82, 78, 84, 65, 73, 76, 49]
def places (l : List PD) : List Nat := l.length :: l.map (·.1.toNat)
def headTop (seq : Nat) (l : List PD) : List UInt8 := wordH ++ lowb 8 seq ++ (places l).flatMap (lowb 4)
def headBody (seq : Nat) (l : List PD) : List UInt8 := headTop seq l ++ List.replicate (508 - (headTop seq l).length) 0
def headB (seq : Nat) (l : List PD) : List UInt8 := headBody seq l ++ lowb 4 (crcN (headBody seq l))
def groupCrc (seq : Nat) (l : List PD) : Nat := crcN (headB seq l ++ (l.map (·.2)).flatten)
def endTop (seq c : Nat) : List UInt8 := wordT ++ lowb 8 seq ++ lowb 4 c
def endOf (seq c : Nat) : List UInt8 := endTop seq c ++ List.replicate 492 0
def endB (seq : Nat) (l : List PD) : List UInt8 := endOf seq (groupCrc seq l)
/-- blocks behind one another from place n on -/
def inRow (n : Nat) (l : List PD) : List PD := l.mapIdx fun i p => ((n + i : Nat), p.2)
def recRows (seq : Nat) (l : List PD) : List PD := (0, headB seq l) :: inRow 1 l
def recEnd (seq : Nat) (l : List PD) : PD := ((1 + l.length : Nat), endB seq l)

theorem flatMap_lowb4_len (us : List Nat) : (us.flatMap (lowb 4)).length = 4 * us.length := by
  induction us with
  | nil => rfl
  | cons u us ih => rw [List.flatMap_cons, List.length_append, ih, lowb_len, List.length_cons]; omega
theorem headTop_len (seq : Nat) (l : List PD) : (headTop seq l).length = 20 + 4 * l.length := by
  simp only [headTop, List.length_append, lowb_len, flatMap_lowb4_len, places, wordH, List.length_cons, List.length_map, List.length_nil]; omega
theorem headBody_len {seq : Nat} {l : List PD} (h : l.length ≤ 64) : (headBody seq l).length = 508 := by
  rw [headBody, List.length_append, List.length_replicate, headTop_len]; omega
theorem headB_len {seq : Nat} {l : List PD} (h : l.length ≤ 64) : (headB seq l).length = 512 := by
  rw [headB, List.length_append, headBody_len h, lowb_len]
theorem endTop_len (seq c : Nat) : (endTop seq c).length = 20 := by simp [endTop, wordT, lowb_len]
theorem endOf_len (seq c : Nat) : (endOf seq c).length = 512 := by rw [endOf, List.length_append, endTop_len, List.length_replicate]
theorem inRow_snoc (n : Nat) (l : List PD) (p : PD) : inRow n (l ++ [p]) = inRow n l ++ [(((n + l.length : Nat) : Int), p.2)] := by
  simp [inRow, List.mapIdx_append]
theorem inRow_len (n : Nat) (l : List PD) : (inRow n l).length = l.length := by simp [inRow]

/- what is read again -/
def rowAt (b : List UInt8) (i : Nat) : List UInt8 := (b.drop (512 * i)).take 512
def numAt (b : List UInt8) (i k : Nat) : Nat := leN ((b.drop i).take k)
def countOf (b : List UInt8) : Nat := numAt (rowAt b 0) 16 4
def headGood (b : List UInt8) : Prop := (rowAt b 0).take 8 = wordH ∧ numAt (rowAt b 0) 508 4 = crcN ((rowAt b 0).take 508) ∧ 1 ≤ countOf b ∧ countOf b ≤ 64
instance (b : List UInt8) : Decidable (headGood b) := by unfold headGood; infer_instance
def seqOf (b : List UInt8) : Nat := numAt (rowAt b 0) 8 8
def tailOf (b : List UInt8) : List UInt8 := rowAt b (1 + countOf b)
def tailGood (b : List UInt8) : Prop := (tailOf b).take 8 = wordT ∧ numAt (tailOf b) 8 8 = seqOf b ∧ numAt (tailOf b) 16 4 = crcN (b.take (512 * (1 + countOf b)))
instance (b : List UInt8) : Decidable (tailGood b) := by unfold tailGood; infer_instance
def gotTo (b : List UInt8) (n : Nat) : List PD := (List.range n).map fun i => ((numAt (rowAt b 0) (20 + 4 * i) 4 : Nat), rowAt b (1 + i))
def gotOf (b : List UInt8) : List PD := gotTo b (countOf b)
def recovGood (b : List UInt8) : Prop := headGood b ∧ tailGood b ∧ ((gotOf b).map (·.1)).Nodup
instance (b : List UInt8) : Decidable (recovGood b) := by unfold recovGood; infer_instance
def recov (b : List UInt8) : Nat × List PD × Int :=
  if b.length ≠ 33792 then (0, [], 14) else if recovGood b then (seqOf b, gotOf b, 0) else (0, [], 2)

theorem rowAt_len {b : List UInt8} {i : Nat} (h : 512 * (i + 1) ≤ b.length) : (rowAt b i).length = 512 := by
  rw [rowAt, List.length_take, List.length_drop]; omega
theorem gotTo_snoc (b : List UInt8) (n : Nat) : gotTo b (n + 1) = gotTo b n ++ [(((numAt (rowAt b 0) (20 + 4 * n) 4 : Nat) : Int), rowAt b (1 + n))] := by
  simp [gotTo, List.range_succ]
theorem gotTo_len (b : List UInt8) (n : Nat) : (gotTo b n).length = n := by simp [gotTo]
theorem rowAt_flatten {b : List UInt8} : ∀ n, 512 * n ≤ b.length → ((List.range n).map (rowAt b)).flatten = b.take (512 * n) := by
  intro n
  induction n with
  | zero => intro _; simp
  | succ n ih =>
    intro h
    rw [List.range_succ, List.map_append, List.flatten_append, ih (by omega)]
    simp only [List.map_cons, List.map_nil, List.flatten_cons, List.flatten_nil, List.append_nil, rowAt]
    rw [Nat.mul_succ, List.take_add]
end Go.Proofs.Ytjjnadlklfegcaa
