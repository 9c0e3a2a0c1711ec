/- rpc, plain: a stream is taken to records. No condition. -/
import Derived.Test.YtpecmkkcepnpeaaDoorRpcW
namespace Go.Proofs.YtpecmkkcepnpeaaDoor
set_option linter.unusedVariables false
set_option linter.unusedSimpArgs false
open Go.RowKit
/-- what is left of a stream, the record so far, the records that are whole; is one too long? -/
structure RecQ where
  rest : List UInt8
  row : List UInt8
  out : List (List UInt8)
  long : Bool
def headV (r : List UInt8) : Nat := beN (r.take 4)
def headN (r : List UInt8) : Nat := headV r % 2147483648
def recGo : Nat → List UInt8 → List UInt8 → List (List UInt8) → RecQ
  | 0, r, row, out => ⟨r, row, out, false⟩
  | f + 1, r, row, out =>
    if 4 ≤ r.length then
      if 16384 < row.length + headN r then ⟨r, row, out, true⟩
      else if r.length < 4 + headN r then ⟨r, row, out, false⟩
      else if 2147483648 ≤ headV r then recGo f (r.drop (4 + headN r)) [] (out ++ [row ++ (r.drop 4).take (headN r)])
      else recGo f (r.drop (4 + headN r)) (row ++ (r.drop 4).take (headN r)) out
    else ⟨r, row, out, false⟩
theorem recGo_fuel : ∀ (f g : Nat) (r row : List UInt8) (out : List (List UInt8)), r.length < f → r.length < g → recGo f r row out = recGo g r row out := by
  intro f
  induction f with
  | zero => intro g r row out h; omega
  | succ f ih =>
    intro g r row out hf hg
    cases g with
    | zero => omega
    | succ g =>
      unfold recGo
      have hd : (r.drop (4 + headN r)).length = r.length - (4 + headN r) := List.length_drop
      split
      · split
        · rfl
        · split
          · rfl
          · split
            · exact ih g _ _ _ (by omega) (by omega)
            · exact ih g _ _ _ (by omega) (by omega)
      · rfl
def recQ (r row : List UInt8) (out : List (List UInt8)) : RecQ := recGo (r.length + 1) r row out
theorem recQ_eq (r row : List UInt8) (out : List (List UInt8)) : recQ r row out =
    if 4 ≤ r.length then
      if 16384 < row.length + headN r then ⟨r, row, out, true⟩
      else if r.length < 4 + headN r then ⟨r, row, out, false⟩
      else if 2147483648 ≤ headV r then recQ (r.drop (4 + headN r)) [] (out ++ [row ++ (r.drop 4).take (headN r)])
      else recQ (r.drop (4 + headN r)) (row ++ (r.drop 4).take (headN r)) out
    else ⟨r, row, out, false⟩ := by
  have hd : (r.drop (4 + headN r)).length = r.length - (4 + headN r) := List.length_drop
  unfold recQ
  conv => lhs; unfold recGo
  split
  · split
    · rfl
    · split
      · rfl
      · split
        · exact recGo_fuel _ _ _ _ _ (by omega) (by omega)
        · exact recGo_fuel _ _ _ _ _ (by omega) (by omega)
  · rfl
theorem recQ_short {r row : List UInt8} {out : List (List UInt8)} (h : ¬ 4 ≤ r.length) : recQ r row out = ⟨r, row, out, false⟩ := by rw [recQ_eq, if_neg h]
theorem recQ_long {r row : List UInt8} {out : List (List UInt8)} (h : 4 ≤ r.length) (h2 : 16384 < row.length + headN r) : recQ r row out = ⟨r, row, out, true⟩ := by rw [recQ_eq, if_pos h, if_pos h2]
theorem recQ_part {r row : List UInt8} {out : List (List UInt8)} (h : 4 ≤ r.length) (h2 : ¬ 16384 < row.length + headN r) (h3 : r.length < 4 + headN r) : recQ r row out = ⟨r, row, out, false⟩ := by rw [recQ_eq, if_pos h, if_neg h2, if_pos h3]
theorem recQ_last {r row : List UInt8} {out : List (List UInt8)} (h : 4 ≤ r.length) (h2 : ¬ 16384 < row.length + headN r) (h3 : ¬ r.length < 4 + headN r) (h4 : 2147483648 ≤ headV r) : recQ r row out = recQ (r.drop (4 + headN r)) [] (out ++ [row ++ (r.drop 4).take (headN r)]) := by rw [recQ_eq, if_pos h, if_neg h2, if_neg h3, if_pos h4]
theorem recQ_more {r row : List UInt8} {out : List (List UInt8)} (h : 4 ≤ r.length) (h2 : ¬ 16384 < row.length + headN r) (h3 : ¬ r.length < 4 + headN r) (h4 : ¬ 2147483648 ≤ headV r) : recQ r row out = recQ (r.drop (4 + headN r)) (row ++ (r.drop 4).take (headN r)) out := by rw [recQ_eq, if_pos h, if_neg h2, if_neg h3, if_neg h4]
/-- the records' state -/
structure RecS where
  rest : List UInt8
  row : List UInt8
  long : Bool
def RecS.new : RecS := ⟨[], [], false⟩
/-- Add: the records, an error, the state behind -/
def RecS.add (s : RecS) (b : List UInt8) : List (List UInt8) × Int × RecS :=
  if s.long = true then ([], 5, ⟨[], [], true⟩)
  else if (recQ (s.rest ++ b) s.row []).long = true then ([], 5, ⟨[], [], true⟩)
  else ((recQ (s.rest ++ b) s.row []).out, 0, ⟨(recQ (s.rest ++ b) s.row []).rest, (recQ (s.rest ++ b) s.row []).row, false⟩)
theorem recQ_row (f : Nat) : ∀ (r row : List UInt8) (out : List (List UInt8)), row.length ≤ 16384 → (recGo f r row out).row.length ≤ 16384 ∧ (recGo f r row out).rest.length ≤ r.length := by
  induction f with
  | zero => intro r row out h; exact ⟨h, Nat.le_refl _⟩
  | succ f ih =>
    intro r row out h
    unfold recGo
    have hd : (r.drop (4 + headN r)).length = r.length - (4 + headN r) := List.length_drop
    split
    · split
      · exact ⟨h, Nat.le_refl _⟩
      · split
        · exact ⟨h, Nat.le_refl _⟩
        · split
          · obtain ⟨h1, h2⟩ := ih (r.drop (4 + headN r)) [] (out ++ [row ++ (r.drop 4).take (headN r)]) (by simp)
            exact ⟨h1, by omega⟩
          · obtain ⟨h1, h2⟩ := ih (r.drop (4 + headN r)) (row ++ (r.drop 4).take (headN r)) out (by rw [List.length_append, List.length_take]; omega)
            exact ⟨h1, by omega⟩
    · exact ⟨h, Nat.le_refl _⟩
end Go.Proofs.YtpecmkkcepnpeaaDoor
