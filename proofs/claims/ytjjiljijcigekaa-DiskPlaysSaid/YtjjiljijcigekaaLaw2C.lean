/- Rows of calls of chapter 2's statements; disks that were written block by block. No condition beside the sizes that each names. -/
import Derived.Test.YtjjiljijcigekaaLaw2K
namespace Go.Proofs.Ytjjiljijcigekaa
set_option linter.unusedVariables false
set_option linter.unusedSimpArgs false
open Go.RowKit
/-- a row of calls that came in: where each goes, and its byte -/
def CRow (a : Option Addr) (n : Nat) (At : Nat → Int) (B : Nat → Nat) (w : World) : Prop :=
  n ≤ 9223372036854775807 ∧ (0 < n → ∃ b o, a = some ⟨b, o, none⟩ ∧ ∀ i, i < n → w.cell? ⟨b, o + i * 5 + 1, none⟩ = some (.int .i64 (At i)) ∧ w.cell? ⟨b, o + i * 5 + 3, none⟩ = some (.int .u8 (B i)))
theorem CRow.of {w : World} {a : Option Addr} {n : Nat} {V : Nat → List Value} {At : Nat → Int} {B : Nat → Nat} (h : IsRow w 5 a n V) (h1 : ∀ i, i < n → (V i)[1]? = some (.int .i64 (At i)) ∧ (V i)[3]? = some (.int .u8 (B i))) : CRow a n At B w := by
  refine ⟨h.1, fun h0 => ?_⟩
  obtain ⟨b, o, ha, hc⟩ := h.2 h0
  exact ⟨b, o, ha, fun i hi => ⟨(hc i hi).2 1 _ (h1 i hi).1, (hc i hi).2 3 _ (h1 i hi).2⟩⟩
theorem gives_crow {w : World} {L : List HP} {a : Option Addr} {n : Nat} {At : Nat → Int} {B : Nat → Nat} (h : CRow a n At B w) : Gives (old w :: L) (CRow a n At B) := by
  intro w' hs
  refine ⟨h.1, fun h0 => ?_⟩
  obtain ⟨b, o, ha, hc⟩ := h.2 h0
  exact ⟨b, o, ha, fun i hi => ⟨SatL.oldCell hs (hc i hi).1, SatL.oldCell hs (hc i hi).2⟩⟩
theorem take1_get {cs : List Value} {k : Nat} {v : Value} (h : (cs.drop k).take 1 = [v]) : cs[k]? = some v := by
  have := congrArg (fun l => l[0]?) h
  simpa using this
/-- a new disk of n, the first k calls of a row written into it, a block each -/
def wrS (n : Nat) (At : Nat → Int) (B : Nat → Nat) : Nat → Dsk
  | 0 => Dsk.new n
  | k + 1 => (wrS n At B k).put (wi (At k) n) (blockB (B k))
theorem wrS_n (n : Nat) (At : Nat → Int) (B : Nat → Nat) : ∀ k, (wrS n At B k).n = n
  | 0 => rfl
  | k + 1 => wrS_n n At B k
theorem wrS_le (n : Nat) (At : Nat → Int) (B : Nat → Nat) : ∀ k i, ((wrS n At B k).V i).length ≤ k
  | 0 => fun i => new_le n i
  | k + 1 => put_le (wrS_le n At B k) (Nat.le_refl _)
theorem cur_new (n i : Nat) : (Dsk.new n).cur i = List.replicate 512 0 := rfl
theorem read_new (n p : Nat) : ∀ k, (Dsk.new n).read p k = List.replicate (512 * k) 0
  | 0 => rfl
  | k + 1 => by rw [read_snoc, read_new n p k, cur_new, List.replicate_append_replicate, Nat.mul_succ]
theorem dirty_new (n : Nat) : (Dsk.new n).dirty = [] := by
  unfold Dsk.dirty Dsk.dirtyN
  rw [List.filter_eq_nil_iff.2]; rfl
  intro a _ h; exact absurd h (by show ¬ (!([] : List (List UInt8)).isEmpty) = true; decide)
section
variable {P : Program} {w : World} {l : List HP} {T bytes : Nat}
theorem step_make_sl {ops : Array Oper} {o : Oper} {a : Act} {K : Act → World → Prop} {Q : Exit → Act → World → Prop} {X : Prop} (hw : Region.wanted o (yielded ops a.tmps) = true) (x y : Operand) {t : Nat} {z : Value}
    (ho : o.op = .makeSlice t x y) (E : ElemOk P t T 1 bytes [z]) (n : Nat) (hx : a.eval x = .int .i64 n) (hy : a.eval y = .int .i64 n) (h : SatL w l) (hb : n * bytes ≤ 281474976710656) (hn : n ≤ 4611686018427387904)
    (H : ∀ w' nb, SatL w' (Sl T (.slice (some ⟨nb, 0, none⟩) n n) (List.replicate n z) :: l) → K (a.put o.dst (.slice (some ⟨nb, 0, none⟩) n n)) w') :
    if Region.wanted o (yielded ops a.tmps) = true then Oper.wp P o a w K Q else X := by
  rw [if_pos hw]
  obtain ⟨w', hr, h2⟩ := run_make_sl E h n hb hn
  unfold Oper.wp
  simp [execOp, ho, hx, hy, hr, Result.andThen]
  exact H w' _ h2
end
section
variable {w : World} {L : List HP} {db : Nat} {s : Dsk}
theorem wrS_ok {n k vn vc : Nat} {va : Option Addr} {At : Nat → Int} {B : Nat → Nat} (hn : 0 < n) (hk : k ≤ 1000) (h : SatL w (DskR db (wrS n At B k) :: L)) (g : Gives L (RdB (.slice va vn vc) (blockB (B k)))) :
    Calls Try.prog 10 #[.pointer (some ⟨db, 0, none⟩), .int .i64 (wi (At k) n : Nat), .slice va vn vc] w (Ret fun r w' => r = .int .i64 0 ∧ SatL w' (DskR db (wrS n At B (k + 1)) :: L)) :=
  write1_ok (blkN_len _ _) (by rw [wrS_n]; exact wi_lt _ hn) (fun i => Nat.le_trans (wrS_le n At B k i) (by omega)) h g
end
end Go.Proofs.Ytjjiljijcigekaa
