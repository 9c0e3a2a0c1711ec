/- rpc, plain: what is read of answers that were written. No condition beside the sizes. -/
import Derived.Test.YtpecmkkcepnpeaaDoorRpcAns
import Derived.Test.YtpecmkkcepnpeaaDoorRpcS
namespace Go.Proofs.YtpecmkkcepnpeaaDoor
set_option linter.unusedVariables false
set_option linter.unusedSimpArgs false
open Go.RowKit
theorem at_skip {r : Rdr} {x rest : List UInt8} {n : Nat} (h : r.at (x ++ rest)) (hx : x.length = n) : (r.num n).2.at rest := by
  have hl := h.len
  obtain ⟨h0, h1, h2⟩ := h
  rw [List.length_append] at hl
  have e : r.num n = (beN ((r.b.drop r.p).take n), { r with p := r.p + n }) := by unfold Rdr.num; rw [if_pos h0, if_pos (by omega)]
  rw [e]
  refine ⟨h0, by dsimp only; omega, ?_⟩
  dsimp only
  rw [← List.drop_drop, h2, List.drop_append_of_le_length (by omega), List.drop_of_length_le (by omega), List.nil_append]
theorem num_p {r : Rdr} {n : Nat} {x : List UInt8} (h : r.at x) (hx : n ≤ x.length) : (r.num n).2.p = r.p + n := by
  have hl := h.len
  obtain ⟨h0, h1, h2⟩ := h
  unfold Rdr.num
  rw [if_pos h0, if_pos (by omega)]
theorem answer_head {b rest : List UInt8} {xid how : Nat} (hb : b = hib 4 xid ++ (hib 4 1 ++ (hib 4 how ++ rest))) (hx : xid < 4294967296) (hh : how ≤ 1) :
    (rd3 b).err = 0 ∧ rkind b = 1 ∧ rvers b = how ∧ rxid b = xid ∧ (rd2 b).p = 8 ∧ b.drop 8 = hib 4 how ++ rest := by
  have a0 := at_new b
  have hp1 := num_p a0 (n := 4) (by rw [hb]; simp [hib_len])
  conv at a0 => arg 2; rw [hb]
  obtain ⟨e1, a1⟩ := at_num a0 hx
  have hp2 := num_p a1 (n := 4) (by simp [hib_len])
  obtain ⟨e2, a2⟩ := at_num a1 (by omega)
  obtain ⟨e3, a3⟩ := at_num a2 (by omega)
  have hp : (rd2 b).p = 8 := by
    show (((Rdr.new b).num 4).2.num 4).2.p = 8
    rw [hp2, hp1]; rfl
  refine ⟨a3.1, e2, e3, e1, hp, ?_⟩
  have q : (rd2 b).b.drop (rd2 b).p = hib 4 how ++ rest := a2.2.2
  rwa [rd2_b, hp] at q
theorem says_taken {rest : List UInt8} {st : Nat} (hst : st < 4294967296) : ∃ r : Rdr, r.at (hib 4 st ++ rest) ∧ saysL (Rdr.new (be4 [0, 0, 0] ++ (hib 4 st ++ rest))) = saysT r := by
  have a0 := at_new (be4 [0, 0, 0] ++ (hib 4 st ++ rest))
  generalize hB : be4 [0, 0, 0] ++ (hib 4 st ++ rest) = B at *
  have hw : B = hib 4 0 ++ (hib 4 0 ++ (hib 4 ([] : List UInt8).length ++ (([] : List UInt8) ++ (List.replicate (pad4 ([] : List UInt8).length) 0 ++ (hib 4 st ++ rest))))) := by
    rw [← hB]
    simp only [be4_cons, List.append_assoc, List.nil_append]
    rfl
  conv at a0 => arg 2; rw [hw]
  obtain ⟨e1, a1⟩ := at_num a0 (by omega)
  obtain ⟨e2, a2⟩ := at_num a1 (by omega)
  obtain ⟨e3, a3⟩ := at_bytes (m := 400) a2 (by simp) (by simp)
  refine ⟨_, a3, ?_⟩
  unfold saysL
  rw [if_neg (by rw [e1]; omega)]
  rfl
theorem saysT_at {r : Rdr} {rest : List UInt8} {st : Nat} (h : r.at (hib 4 st ++ rest)) (hst : st < 4294967296) :
    (st = 0 → (saysT r).1 = 0 ∧ (saysT r).2.at rest) ∧ (st = 1 → (saysT r).1 = 34 ∧ (saysT r).2.at rest) ∧ (st = 2 → ∀ x rest', rest = x ++ rest' → x.length = 8 → (saysT r).1 = 35 ∧ (saysT r).2.at rest') ∧ (st = 3 → (saysT r).1 = 36 ∧ (saysT r).2.at rest) ∧ (st = 4 → (saysT r).1 = 33 ∧ (saysT r).2.at rest) := by
  obtain ⟨e1, a1⟩ := at_num h hst
  refine ⟨fun hs => ?_, fun hs => ?_, fun hs x rest' hx hl => ?_, fun hs => ?_, fun hs => ?_⟩
  · unfold saysT; rw [e1, if_pos hs]; exact ⟨rfl, a1⟩
  · unfold saysT; rw [e1, if_neg (by omega), if_pos hs]; exact ⟨rfl, a1⟩
  · unfold saysT; rw [e1, if_neg (by omega), if_neg (by omega), if_pos hs]
    rw [hx] at a1
    exact ⟨rfl, at_skip a1 hl⟩
  · unfold saysT; rw [e1, if_neg (by omega), if_neg (by omega), if_neg (by omega), if_pos hs]; exact ⟨rfl, a1⟩
  · unfold saysT; rw [e1, if_neg (by omega), if_neg (by omega), if_neg (by omega), if_neg (by omega), if_pos hs]; exact ⟨rfl, a1⟩
theorem answerL_ok {xid : Nat} {body : List UInt8} (hx : xid < 4294967296) : answerL (be4 [xid, 1, 0, 0, 0, 0] ++ body) = (xid, body, 0) := by
  obtain ⟨B, hB⟩ : ∃ B, B = be4 [xid, 1, 0, 0, 0, 0] ++ body := ⟨_, rfl⟩
  have hw : B = hib 4 xid ++ (hib 4 1 ++ (hib 4 0 ++ (be4 [0, 0] ++ (hib 4 0 ++ body)))) := by
    rw [hB]; simp only [be4_cons, List.append_assoc]; try rfl
  obtain ⟨k1, k2, k3, k4, k5, k6⟩ := answer_head hw hx (by omega)
  have e6 : hib 4 0 ++ (be4 [0, 0] ++ (hib 4 0 ++ body)) = be4 [0, 0, 0] ++ (hib 4 0 ++ body) := by simp only [be4_cons, List.append_assoc]
  rw [e6] at k6
  obtain ⟨r, hr, hs⟩ := says_taken (rest := body) (st := 0) (by omega)
  have hA : ansS B = saysT r := by unfold ansS; rw [k5, k6, hs]
  obtain ⟨q1, q2⟩ := (saysT_at hr (by omega)).1 rfl
  have hb : (ansS B).2.b = B.drop 8 := by unfold ansS; rw [saysL_b, k5]; rfl
  rw [← hB]
  unfold answerL
  rw [k1, k2, k3, k4, k5, hA, q1, if_neg (by omega), if_neg (by intro h; rcases h with h | h; exact h q2.1; cases h), if_pos rfl]
  have q3 := q2.2.2
  rw [← hA, hb, List.drop_drop, hA] at q3
  rw [q3]
theorem answerL_no {xid st : Nat} {tl : List UInt8} {e : Int} (hx : xid < 4294967296) (hst : (st = 1 ∧ tl = [] ∧ e = 34) ∨ (st = 2 ∧ tl.length = 8 ∧ e = 35) ∨ (st = 3 ∧ tl = [] ∧ e = 36) ∨ (st = 4 ∧ tl = [] ∧ e = 33)) : answerL (be4 [xid, 1, 0, 0, 0] ++ (hib 4 st ++ tl)) = (xid, [], e) := by
  obtain ⟨B, hB⟩ : ∃ B, B = be4 [xid, 1, 0, 0, 0] ++ (hib 4 st ++ tl) := ⟨_, rfl⟩
  have hs4 : st < 4294967296 := by omega
  have hw : B = hib 4 xid ++ (hib 4 1 ++ (hib 4 0 ++ (be4 [0, 0] ++ (hib 4 st ++ tl)))) := by
    rw [hB]; simp only [be4_cons, List.append_assoc]; try rfl
  obtain ⟨k1, k2, k3, k4, k5, k6⟩ := answer_head hw hx (by omega)
  have e6 : hib 4 0 ++ (be4 [0, 0] ++ (hib 4 st ++ tl)) = be4 [0, 0, 0] ++ (hib 4 st ++ tl) := by simp only [be4_cons, List.append_assoc]
  rw [e6] at k6
  obtain ⟨r, hr, hs⟩ := says_taken (rest := tl) (st := st) hs4
  have hA : ansS B = saysT r := by unfold ansS; rw [k5, k6, hs]
  obtain ⟨f0, f1, f2, f3, f4⟩ := saysT_at hr hs4
  have hq : (saysT r).1 = e ∧ (saysT r).2.at [] := by
    rcases hst with ⟨h1, h2, h3⟩ | ⟨h1, h2, h3⟩ | ⟨h1, h2, h3⟩ | ⟨h1, h2, h3⟩
    · subst h2; subst h3; exact f1 h1
    · subst h3; exact f2 h1 tl [] (by simp) h2
    · subst h2; subst h3; exact f3 h1
    · subst h2; subst h3; exact f4 h1
  obtain ⟨q1, q2⟩ := hq
  have hl := q2.len
  rw [← hB]
  unfold answerL
  rw [k1, k2, k3, k4, k5, hA, q1, if_neg (by omega), if_neg (by intro h; rcases h with h | h; exact h q2.1; rcases hst with h' | h' | h' | h' <;> omega), if_neg (by rcases hst with h' | h' | h' | h' <;> omega), if_neg (by rw [hl]; simp)]
theorem answerL_rpc {xid : Nat} (hx : xid < 4294967296) : answerL (be4 [xid, 1, 1, 0, 2, 2]) = (xid, [], 31) := by
  obtain ⟨B, hB⟩ : ∃ B, B = be4 [xid, 1, 1, 0, 2, 2] := ⟨_, rfl⟩
  have hw : B = hib 4 xid ++ (hib 4 1 ++ (hib 4 1 ++ (hib 4 0 ++ (hib 4 2 ++ (hib 4 2 ++ []))))) := by
    rw [hB]; simp only [be4_cons, List.append_assoc]; try rfl
  obtain ⟨k1, k2, k3, k4, k5, k6⟩ := answer_head hw hx (by omega)
  have a0 := at_new (B.drop 8)
  conv at a0 => arg 2; rw [k6]
  obtain ⟨e1, a1⟩ := at_num a0 (by omega)
  obtain ⟨e2, a2⟩ := at_num a1 (by omega)
  obtain ⟨e3, a3⟩ := at_num a2 (by omega)
  obtain ⟨e4, a4⟩ := at_num a3 (by omega)
  have hA : ansS B = (31, ((((Rdr.new (B.drop 8)).num 4).2.num 4).2.num 4 |>.2.num 4).2) := by
    unfold ansS
    rw [k5]
    unfold saysL
    rw [if_pos e1]
    unfold saysR
    rw [if_pos e2, if_pos ⟨e3, e4⟩]
  have hl := a4.len
  rw [← hB]
  unfold answerL
  rw [k1, k2, k3, k4, k5, hA, if_neg (by omega), if_neg (by intro h; rcases h with h | h; exact h a4.1; cases h), if_neg (show ¬ (31 : Int) = 0 by decide), if_neg (by dsimp only; rw [hl]; simp)]
end Go.Proofs.YtpecmkkcepnpeaaDoor
