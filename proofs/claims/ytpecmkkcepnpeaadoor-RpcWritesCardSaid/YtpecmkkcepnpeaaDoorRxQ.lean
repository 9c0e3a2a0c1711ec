/- the document's rpc, plain: Answer comes to the same. No condition. -/
import Derived.Test.YtpecmkkcepnpeaaDoorRpcAns
namespace Go.Proofs.YtpecmkkcepnpeaaDoor
set_option linter.unusedVariables false
set_option linter.unusedSimpArgs false
open Go.RowKit
/-- r reads what s reads, k bytes further on -/
structure Sh (k : Nat) (r s : Rdr) : Prop where
  hb : r.b = s.b.drop k
  hp : s.p = k + r.p
  he : r.err = s.err
  hk : k ≤ s.b.length
section
variable {k : Nat} {r s : Rdr}
theorem Sh.num (h : Sh k r s) (n : Nat) : (r.num n).1 = (s.num n).1 ∧ Sh k (r.num n).2 (s.num n).2 := by
  obtain ⟨rb, rp, re⟩ := r
  obtain ⟨sb, sp, se⟩ := s
  obtain ⟨hb, hp, he, hk⟩ := h
  dsimp only at hb hp he hk
  subst hb; subst hp; subst he
  unfold Rdr.num
  dsimp only
  by_cases h0 : re = 0
  · rw [if_pos h0, if_pos h0]
    by_cases h1 : k + rp + n ≤ sb.length
    · rw [if_pos h1, if_pos (by rw [List.length_drop]; omega), List.drop_drop]
      exact ⟨rfl, rfl, by show k + rp + n = k + (rp + n); omega, rfl, hk⟩
    · rw [if_neg h1, if_neg (by rw [List.length_drop]; omega)]
      exact ⟨rfl, rfl, rfl, rfl, hk⟩
  · rw [if_neg h0, if_neg h0]
    exact ⟨rfl, rfl, rfl, rfl, hk⟩
theorem Sh.fixed (h : Sh k r s) (n : Nat) : Sh k (r.fixed n).2 (s.fixed n).2 := by
  obtain ⟨rb, rp, re⟩ := r
  obtain ⟨sb, sp, se⟩ := s
  obtain ⟨hb, hp, he, hk⟩ := h
  dsimp only at hb hp he hk
  subst hb; subst hp; subst he
  unfold Rdr.fixed
  dsimp only
  by_cases h0 : re = 0
  · rw [if_pos h0, if_pos h0]
    by_cases h1 : k + rp + n + pad4 n ≤ sb.length
    · rw [if_pos h1, if_pos (by rw [List.length_drop]; omega), List.drop_drop, show k + (rp + n) = k + rp + n by omega]
      by_cases h2 : ((sb.drop (k + rp + n)).take (pad4 n)).all (· == 0)
      · rw [if_pos h2, if_pos h2]
        exact ⟨rfl, by show k + rp + n + pad4 n = k + (rp + n + pad4 n); omega, rfl, hk⟩
      · rw [if_neg h2, if_neg h2]
        exact ⟨rfl, rfl, rfl, hk⟩
    · rw [if_neg h1, if_neg (by rw [List.length_drop]; omega)]
      exact ⟨rfl, rfl, rfl, hk⟩
  · rw [if_neg h0, if_neg h0]
    exact ⟨rfl, rfl, rfl, hk⟩
theorem Sh.cut (h : Sh k r s) (n : Nat) (m : Int) : Sh k (r.cut n m) (s.cut n m) := by
  unfold Rdr.cut
  rw [h.he]
  split
  · exact ⟨h.hb, h.hp, rfl, h.hk⟩
  · exact h
theorem Sh.bytes (h : Sh k r s) (m : Int) : Sh k (r.bytes m).2 (s.bytes m).2 := by
  obtain ⟨h1, h2⟩ := h.num 4
  have h3 := (h2.cut (r.num 4).1 m).fixed (r.num 4).1
  show Sh k (bytesEnd (((r.num 4).2.cut (r.num 4).1 m).fixed (r.num 4).1) r.p).2 (bytesEnd (((s.num 4).2.cut (s.num 4).1 m).fixed (s.num 4).1) s.p).2
  rw [← h1]
  unfold bytesEnd
  dsimp only
  rw [← h3.he]
  split
  · exact h3
  · exact ⟨h3.hb, h.hp, (by first | exact h3.he | rfl), h3.hk⟩
theorem Sh.saysR (h : Sh k r s) : (saysR r).1 = (saysR s).1 ∧ Sh k (saysR r).2 (saysR s).2 := by
  obtain ⟨h1, h2⟩ := h.num 4
  obtain ⟨h3, h4⟩ := h2.num 4
  obtain ⟨h5, h6⟩ := h4.num 4
  unfold Go.Proofs.YtpecmkkcepnpeaaDoor.saysR
  rw [← h1, ← h3, ← h5]
  split
  · exact ⟨rfl, h6⟩
  · split
    · exact ⟨rfl, h4⟩
    · exact ⟨rfl, h2⟩
theorem Sh.saysT (h : Sh k r s) : (saysT r).1 = (saysT s).1 ∧ Sh k (saysT r).2 (saysT s).2 := by
  obtain ⟨h1, h2⟩ := h.num 4
  obtain ⟨h3, h4⟩ := h2.num 8
  unfold Go.Proofs.YtpecmkkcepnpeaaDoor.saysT
  rw [← h1]
  repeat' split
  all_goals first | exact ⟨rfl, h2⟩ | exact ⟨rfl, h4⟩
end
/-- the document's: of one that was taken -/
def sayT2 (r : Rdr) : Int × Rdr :=
  if (r.num 4).1 = 0 then (0, (r.num 4).2)
  else if (r.num 4).1 = 1 then (34, (r.num 4).2)
  else if (r.num 4).1 = 2 then (35, (((r.num 4).2.num 4).2.num 4).2)
  else if (r.num 4).1 = 3 then (36, (r.num 4).2)
  else if (r.num 4).1 = 4 then (33, (r.num 4).2)
  else (15, (r.num 4).2)
theorem num_stay {r : Rdr} {n : Nat} (h : r.err ≠ 0) : r.num n = (0, r) := if_neg h
theorem num_err0 {r : Rdr} {n : Nat} (h : (r.num n).2.err = 0) : r.err = 0 := by
  by_cases h0 : r.err = 0
  · exact h0
  · rw [num_stay h0] at h; exact h
theorem num8 (r : Rdr) : ((r.num 8).2.err = 0 ↔ ((r.num 4).2.num 4).2.err = 0) ∧ ((r.num 8).2.err = 0 → (r.num 8).2 = ((r.num 4).2.num 4).2) := by
  obtain ⟨b, p, e⟩ := r
  by_cases h0 : e = 0
  · subst h0
    by_cases h8 : p + 8 ≤ b.length
    · have e8 : ((⟨b, p, 0⟩ : Rdr).num 8).2 = ⟨b, p + 8, 0⟩ := by unfold Rdr.num; rw [if_pos rfl, if_pos h8]
      have e4 : ((⟨b, p, 0⟩ : Rdr).num 4).2 = ⟨b, p + 4, 0⟩ := by unfold Rdr.num; rw [if_pos rfl, if_pos (by show p + 4 ≤ b.length; omega)]
      have e44 : ((⟨b, p + 4, 0⟩ : Rdr).num 4).2 = ⟨b, p + 8, 0⟩ := by unfold Rdr.num; rw [if_pos rfl, if_pos (by show p + 4 + 4 ≤ b.length; omega)]
      rw [e8, e4, e44]
      exact ⟨Iff.rfl, fun _ => rfl⟩
    · have e8 : ((⟨b, p, 0⟩ : Rdr).num 8).2 = ⟨b, p, 11⟩ := by unfold Rdr.num; rw [if_pos rfl, if_neg h8]
      rw [e8]
      have hn : ((⟨b, p, 11⟩ : Rdr).err = 0) = False := by simp
      rw [hn]
      refine ⟨⟨False.elim, fun h => ?_⟩, False.elim⟩
      by_cases h4 : p + 4 ≤ b.length
      · have e4 : ((⟨b, p, 0⟩ : Rdr).num 4).2 = ⟨b, p + 4, 0⟩ := by unfold Rdr.num; rw [if_pos rfl, if_pos h4]
        have e44 : ((⟨b, p + 4, 0⟩ : Rdr).num 4).2 = ⟨b, p + 4, 11⟩ := by unfold Rdr.num; rw [if_pos rfl, if_neg (by show ¬ p + 4 + 4 ≤ b.length; omega)]
        rw [e4, e44] at h
        exact absurd h (show ¬ (11 : Int) = 0 by decide)
      · have e4 : ((⟨b, p, 0⟩ : Rdr).num 4).2 = ⟨b, p, 11⟩ := by unfold Rdr.num; rw [if_pos rfl, if_neg h4]
        rw [e4, num_stay (r := ⟨b, p, 11⟩) (show (11 : Int) ≠ 0 by decide)] at h
        exact absurd h (show ¬ (11 : Int) = 0 by decide)
  · rw [num_stay (r := ⟨b, p, e⟩) h0, num_stay (r := ⟨b, p, e⟩) h0]
    dsimp only
    rw [num_stay (r := ⟨b, p, e⟩) h0]
    exact ⟨Iff.rfl, fun _ => rfl⟩
/-- alike as far as an answer's reader goes -/
def Alk (q t : Int × Rdr) : Prop := q.1 = t.1 ∧ (q.2.err = 0 ↔ t.2.err = 0) ∧ (q.2.err = 0 → q.2 = t.2)
theorem Alk.same (q : Int × Rdr) : Alk q q := ⟨rfl, Iff.rfl, fun _ => rfl⟩
theorem sayT2_alk (r : Rdr) : Alk (saysT r) (sayT2 r) := by
  unfold saysT sayT2
  split
  · exact .same _
  · split
    · exact .same _
    · split
      · obtain ⟨h1, h2⟩ := num8 (r.num 4).2
        exact ⟨rfl, h1, h2⟩
      · split
        · exact .same _
        · split
          · exact .same _
          · exact .same _
def refS (b : List UInt8) : Int × Rdr := if rvers b = 1 then saysR (rd3 b) else sayT2 (((rd3 b).num 4).2.bytes 400).2
def refAns (b : List UInt8) : Nat × List UInt8 × Int :=
  if (rd3 b).err ≠ 0 ∨ rkind b ≠ 1 ∨ 1 < rvers b then (0, [], 15)
  else if (refS b).2.err = 0 ∧ (refS b).1 = 0 then (rxid b, b.drop (refS b).2.p, 0)
  else if (refS b).2.err ≠ 0 ∨ (refS b).2.p < (refS b).2.b.length ∨ (refS b).1 = 15 then (0, [], 15)
  else (rxid b, [], (refS b).1)
theorem rd_le (r : Rdr) (n : Nat) (h : r.p ≤ r.b.length) : (r.num n).2.p ≤ (r.num n).2.b.length := by
  unfold Rdr.num
  split
  · split
    · rename_i h1; exact h1
    · exact h
  · exact h
theorem refAns_eq (b : List UInt8) : refAns b = answerL b := by
  unfold refAns answerL
  by_cases hA : (rd3 b).err ≠ 0 ∨ rkind b ≠ 1 ∨ 1 < rvers b
  · rw [if_pos hA, if_pos hA]
  · rw [if_neg hA, if_neg hA]
    have e3 : (rd3 b).err = 0 := by omega
    have e2 : (rd2 b).err = 0 := num_err0 (r := rd2 b) (n := 4) e3
    have hb2 : (rd2 b).b = b := rd2_b b
    have hp2 : (rd2 b).p ≤ b.length := by
      have h0 : (Rdr.new b).p ≤ (Rdr.new b).b.length := Nat.zero_le _
      have h1 := rd_le (rd1 b) 4 (rd_le (Rdr.new b) 4 h0)
      have h2 : (rd2 b).p ≤ (rd2 b).b.length := h1
      rw [hb2] at h2
      exact h2
    have sh : Sh (rd2 b).p (Rdr.new (b.drop (rd2 b).p)) (rd2 b) := ⟨by rw [hb2]; rfl, by show (rd2 b).p = (rd2 b).p + 0; omega, by rw [e2]; rfl, by rw [hb2]; exact hp2⟩
    obtain ⟨n1, s3⟩ := sh.num 4
    have key : ∃ t, Alk t (refS b) ∧ (ansS b).1 = t.1 ∧ Sh (rd2 b).p (ansS b).2 t.2 := by
      have hv : rvers b = ((rd2 b).num 4).1 := rfl
      have hr3 : rd3 b = ((rd2 b).num 4).2 := rfl
      unfold ansS saysL refS
      rw [n1, ← hv]
      by_cases h1 : rvers b = 1
      · rw [if_pos h1, if_pos h1]
        obtain ⟨x1, x2⟩ := s3.saysR
        exact ⟨_, .same _, x1, x2⟩
      · rw [if_neg h1, if_neg h1]
        obtain ⟨x1, x2⟩ := ((s3.num 4).2.bytes 400).saysT
        exact ⟨_, sayT2_alk _, x1, x2⟩
    obtain ⟨t, ⟨a1, a2, a3⟩, k1, k2⟩ := key
    have kb : (ansS b).2.err = t.2.err := k2.he
    rw [k1, kb]
    by_cases hE : t.2.err = 0
    · have hR := a3 hE
      have hE2 := a2.1 hE
      have hpp : (refS b).2.p = (rd2 b).p + (ansS b).2.p := by rw [← hR]; exact k2.hp
      have hlen : ((refS b).2.p < (refS b).2.b.length) ↔ ((ansS b).2.p < (ansS b).2.b.length) := by
        rw [hpp, k2.hb, List.length_drop, ← hR]
        have := k2.hk
        omega
      rw [← a1]
      by_cases h0 : t.1 = 0
      · rw [if_pos ⟨hE2, h0⟩, if_neg (by rw [h0]; simp [hE]), if_pos h0, hpp]
      · rw [if_neg (fun h => h0 h.2)]
        by_cases h15 : t.1 = 15
        · rw [if_pos (.inr (.inr h15)), if_pos (.inr h15)]
        · rw [if_neg (c := t.2.err ≠ 0 ∨ t.1 = 15) (by simp [hE, h15]), if_neg h0]
          by_cases hl : (ansS b).2.p < (ansS b).2.b.length
          · rw [if_pos hl, if_pos (.inr (.inl (hlen.2 hl)))]
          · rw [if_neg hl, if_neg (by simp [hE2, h15, hlen]; omega)]
    · have hE2 : (refS b).2.err ≠ 0 := fun h => hE (a2.2 h)
      rw [if_neg (fun h => hE2 h.1), if_pos (.inl hE2), if_pos (.inl hE)]
end Go.Proofs.YtpecmkkcepnpeaaDoor
