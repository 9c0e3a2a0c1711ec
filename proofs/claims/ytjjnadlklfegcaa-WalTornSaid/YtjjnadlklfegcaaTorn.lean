/- WalTorn's plain law: a log in which rows of two groups stand is none, or one of both, or has the same sum. No program in sight. -/
import Derived.Test.YtjjnadlklfegcaaGroups
namespace Go.Proofs.Ytjjnadlklfegcaa
set_option linter.unusedVariables false
set_option linter.unusedSimpArgs false
open Go.RowKit

theorem putB_word {c : Nat} : (putB 512 c).take 8 ≠ wordT := by
  intro h
  have h0 := congrArg (fun l : List UInt8 => l[0]?) h
  have h1 := congrArg (fun l : List UInt8 => l[1]?) h
  simp only [List.getElem?_take] at h0 h1
  rw [if_pos (by omega)] at h0 h1
  unfold putB at h0 h1
  rw [List.getElem?_map, List.getElem?_range (by omega)] at h0 h1
  have e0 : byteOf (c + 0 / 3) = 71 := by simpa [wordT] using h0
  have e1 : byteOf (c + 1 / 3) = 82 := by simpa [wordT] using h1
  rw [show (0 : Nat) / 3 = 0 from rfl] at e0
  rw [show (1 : Nat) / 3 = 0 from rfl, e0] at e1
  exact absurd e1 (by decide)
theorem zero_word : (List.replicate 512 (0 : UInt8)).take 8 ≠ wordT := by
  rw [List.take_replicate]
  decide
def TornOk (l : List PD) (s : Nat) (G : List PD) : Prop :=
  ∃ got, recov (logB l) = (s, got, 0) ∧ got.map (·.1) = G.map (·.1) ∧ crcN (headB s G ++ (G.map (·.2)).flatten) = crcN (headB s G ++ (got.map (·.2)).flatten)
theorem torn_core {s s' : Nat} {G G' l : List PD} (hs : s < 18446744073709551616) (hs' : s' < 18446744073709551616) (hne : s' ≠ s) (hG : recErr G = 0) (hG' : recErr G' = 0) (gG' : ∀ p ∈ G', ∃ b, p.2 = putB 512 b)
    (hl : ∀ q ∈ l, q ∈ recAll s G ∨ q ∈ recAll s' G') (h0 : rowAt (logB l) 0 = headB s G) (hg : recovGood (logB l)) : TornOk l s G := by
  obtain ⟨a1, a2, a3, a4⟩ := recErr_good hG
  have hok : LogOk l := fun q hq => (hl q hq).elim (recAll_ok hG q) (recAll_ok hG' q)
  have hb := logB_len l
  have hc : countOf (logB l) = G.length := by unfold countOf; rw [h0, head_count a2]
  have hsq : seqOf (logB l) = s := by unfold seqOf; rw [h0, head_seq hs]
  obtain ⟨g1, ⟨t1, t2, t3⟩, g3⟩ := hg
  have hrec : recov (logB l) = (s, gotOf (logB l), 0) := by
    unfold recov
    rw [if_neg (by omega), if_pos ⟨g1, ⟨t1, t2, t3⟩, g3⟩, hsq]
  have htl : tailOf (logB l) = rowAt (logB l) (1 + G.length) := by unfold tailOf; rw [hc]
  have hrow := rowAt_log (r := 1 + G.length) (by omega) l hok
  rw [htl, hrow] at t1 t2 t3
  have hend : rowAt (logB l) (1 + G.length) = endB s G := by
    rw [hrow]
    cases hla : lastAt l (1 + G.length) with
    | none =>
      rw [hla] at t1
      exact absurd t1 zero_word
    | some p =>
      rw [hla] at t1 t2
      simp only at t1 t2 ⊢
      obtain ⟨hm, hp1⟩ := lastAt_mem hla
      rcases hl p hm with hm | hm
      · rcases recAll_mem hm with rfl | ⟨i, q, hq, rfl⟩ | rfl
        · simp only at hp1; omega
        · have := (List.getElem?_eq_some_iff.1 hq).1
          simp only at hp1; omega
        · rfl
      · rcases recAll_mem hm with rfl | ⟨i, q, hq, rfl⟩ | rfl
        · simp only at hp1; omega
        · obtain ⟨c, hc⟩ := gG' q (List.mem_of_getElem? hq)
          simp only at t1
          rw [hc] at t1
          exact absurd t1 putB_word
        · simp only at t2
          unfold endB at t2
          rw [end_seq hs', hsq] at t2
          exact absurd t2 hne
  rw [← hrow, hend] at t3
  unfold endB at t3
  rw [end_sum (groupCrc_lt _ _), hc] at t3
  refine ⟨gotOf (logB l), hrec, ?_, ?_⟩
  · apply List.ext_getElem?
    intro i
    unfold gotOf gotTo
    rw [hc, List.map_map, List.getElem?_map, List.getElem?_map]
    by_cases hi : i < G.length
    · rw [List.getElem?_range hi, List.getElem?_eq_getElem hi]
      have := head_place (seq := s) (List.getElem?_eq_getElem hi) ⟨(a3 _ (List.getElem_mem hi)).1, (a3 _ (List.getElem_mem hi)).2.1⟩
      simp only [Option.map_some, Function.comp]
      rw [h0, this]
    · rw [List.getElem?_eq_none (by simpa using hi), List.getElem?_eq_none (by omega)]
      rfl
  · have htk := take_group (b := logB l) (n := G.length) (H := headB s G) (ds := (gotOf (logB l)).map (·.2)) (by omega) h0 (by
      intro i hi
      unfold gotOf gotTo
      rw [hc, List.map_map, List.getElem?_map, List.getElem?_range hi]
      rfl) (by unfold gotOf; rw [List.length_map, gotTo_len, hc])
    rw [htk] at t3
    exact t3
theorem torn_law {P Q l : List PD} (hP : recErr P = 0) (hQ : recErr Q = 0) (gP : ∀ p ∈ P, ∃ b, p.2 = putB 512 b) (gQ : ∀ p ∈ Q, ∃ b, p.2 = putB 512 b) (hl : ∀ q ∈ l, q ∈ recAll 1 P ∨ q ∈ recAll 2 Q) (hm : (0, headB 1 P) ∈ l) :
    recov (logB l) = (0, [], 2) ∨ TornOk l 1 P ∨ TornOk l 2 Q := by
  by_cases hg : recovGood (logB l)
  · right
    have hok : LogOk l := fun q hq => (hl q hq).elim (recAll_ok hP q) (recAll_ok hQ q)
    have hrow := rowAt_log (r := 0) (by omega) l hok
    cases hla : lastAt l 0 with
    | none =>
      exfalso
      unfold lastAt at hla
      rw [List.find?_eq_none] at hla
      exact hla _ (List.mem_reverse.2 hm) (by simp)
    | some p =>
      rw [hla] at hrow
      simp only at hrow
      obtain ⟨hpm, hp1⟩ := lastAt_mem hla
      have zero : ∀ {s : Nat} {G : List PD}, p ∈ recAll s G → p.2 = headB s G := by
        intro s G h
        rcases recAll_mem h with rfl | ⟨i, q, hq, rfl⟩ | rfl
        · rfl
        · simp only at hp1; omega
        · simp only at hp1; omega
      rcases hl p hpm with h | h
      · rw [zero h] at hrow
        exact .inl (torn_core (by omega) (by omega : 2 < 18446744073709551616) (by omega) hP hQ gQ hl hrow hg)
      · rw [zero h] at hrow
        exact .inr (torn_core (by omega) (by omega : 1 < 18446744073709551616) (by omega) hQ hP gP (fun q hq => (hl q hq).symm) hrow hg)
  · left
    unfold recov
    rw [if_neg (by rw [logB_len]; omega), if_neg hg]
theorem grp_sound {G : List PD} (h : GrpOk G) (h1 : 1 ≤ G.length) (h2 : G.length ≤ 64) : recErr G = 0 := by
  have hs : ∀ p ∈ G, soundE p = 0 := by
    intro p hp
    obtain ⟨b1, b2, c, hc⟩ := h.2 p hp
    unfold soundE
    rw [if_neg (by omega), if_neg (by rw [hc, putB_len]; simp)]
  have key : ∀ (rest seen : List PD), (∀ p ∈ rest, soundE p = 0) → ((seen ++ rest).map (·.1)).Nodup → recScan seen rest = 0 := by
    intro rest
    induction rest with
    | nil => intro seen _ _; rfl
    | cons p rest ih =>
      intro seen h3 h4
      unfold recScan
      rw [h3 p (by simp)]
      have hn : ¬ p.1 ∈ seen.map (·.1) := by
        intro hm
        rw [List.map_append, List.map_cons, List.nodup_append] at h4
        exact h4.2.2 _ hm _ (by simp) rfl
      simp only [ne_eq, not_true_eq_false, if_false]
      rw [if_neg hn]
      exact ih (seen ++ [p]) (fun q hq => h3 q (List.mem_cons_of_mem _ hq)) (by rw [List.append_assoc]; exact h4)
  unfold recErr
  rw [if_neg (by intro e; rw [e] at h1; simp at h1), if_neg (by omega)]
  exact key G [] hs (by rw [List.nil_append]; exact h.1)
end Go.Proofs.Ytjjnadlklfegcaa
