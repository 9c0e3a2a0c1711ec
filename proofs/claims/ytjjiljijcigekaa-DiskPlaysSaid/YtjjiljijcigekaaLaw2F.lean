/- done of chapter 2's statements: both disks take one call alike. No condition beside the sizes that it names. -/
import Derived.Test.YtjjiljijcigekaaLaw2E
import Derived.Test.YtjjiljijcigekaaRegE
namespace Go.Proofs.Ytjjiljijcigekaa
set_option linter.unusedVariables false
set_option linter.unusedSimpArgs false
open Go.RowKit
/-- what Write answers, and what stands behind it -/
def Dsk.wrx (s : Dsk) (p : Int) (bs : List UInt8) : Int × Dsk :=
  if bs.length = 0 ∨ ¬ bs.length % 512 = 0 then (14, s) else if 0 ≤ p ∧ p + (bs.length / 512 : Nat) ≤ s.n then (0, s.wr p.toNat bs (bs.length / 512)) else (1, s)
/-- what Read tells -/
def Dsk.rdx (s : Dsk) (p n : Int) : List UInt8 × Int := if 0 ≤ p ∧ 0 < n ∧ n ≤ s.n ∧ p ≤ (s.n : Int) - n then (s.read p.toNat n.toNat, 0) else ([], 1)
theorem RdB.len0 {w : World} {a : Option Addr} {n c : Nat} {l : List UInt8} (h : RdB (.slice a n c) l w) : n = l.length := by
  obtain ⟨a', c', e, _⟩ := h.valn
  injection e
section
variable {w : World} {L : List HP} {db xb : Nat} {s : Dsk}
theorem writex_ok {p : Int} {n vc : Nat} {va : Option Addr} {bs : List UInt8} (hn : n = bs.length) (hr : I64 p) (hb : bs.length ≤ 100000) (hV : ∀ i, (s.V i).length ≤ 100000) (h : SatL w (DskR db s :: L)) (g : Gives L (RdB (.slice va n vc) bs)) :
    Calls Try.prog 10 #[.pointer (some ⟨db, 0, none⟩), .int .i64 p, .slice va n vc] w (Ret fun r w' => r = .int .i64 (s.wrx p bs).1 ∧ SatL w' (DskR db (s.wrx p bs).2 :: L)) := by
  unfold Dsk.wrx
  split
  · rename_i h0
    exact write_size (by omega) h
  · rename_i h0
    split
    · rename_i h1
      obtain ⟨q, rfl⟩ := Int.eq_ofNat_of_zero_le h1.1
      exact write_ok (by omega) (by omega) (by omega) (by omega) hV h g
    · rename_i h1
      exact write_no (n := bs.length / 512) hr (by omega) (by omega) h1 h
theorem refwritex_ok {p : Int} {n vc : Nat} {va : Option Addr} {bs : List UInt8} (hn : n = bs.length) (hr : I64 p) (hb : bs.length ≤ 100000) (hV : ∀ i, (s.V i).length ≤ 100000) (h : SatL w (RDsk xb s :: L)) (g : Gives L (RdB (.slice va n vc) bs)) :
    Calls Try.prog 27 #[.pointer (some ⟨xb, 0, none⟩), .int .i64 p, .slice va n vc] w (Ret fun r w' => r = .int .i64 (s.wrx p bs).1 ∧ SatL w' (RDsk xb (s.wrx p bs).2 :: L)) := by
  unfold Dsk.wrx
  split
  · rename_i h0
    refine (refwrite_size (by omega) h).mono ?_
    rintro e w' ⟨v, rfl, rfl, rfl⟩
    exact Ret.mk ⟨rfl, h⟩
  · rename_i h0
    split
    · rename_i h1
      obtain ⟨q, rfl⟩ := Int.eq_ofNat_of_zero_le h1.1
      exact refwrite_ok (by omega) (by omega) (by omega) (by omega) hV h g
    · rename_i h1
      refine (refwrite_no (n := bs.length / 512) hr (by omega) (by omega) h1 h).mono ?_
      rintro e w' ⟨v, rfl, rfl, rfl⟩
      exact Ret.mk ⟨rfl, h⟩
theorem readx_ok {p n : Int} (hr : I64 p ∧ I64 n) (hV : ∀ i, (s.V i).length ≤ 1000000) (h : SatL w (DskR db s :: L)) :
    Calls Try.prog 13 #[.pointer (some ⟨db, 0, none⟩), .int .i64 p, .int .i64 n] w (Ret fun r w' => ∃ v, r = .tuple #[v, .int .i64 (s.rdx p n).2] ∧ SatL w' (SlB 5 v (s.rdx p n).1 :: DskR db s :: L)) := by
  unfold Dsk.rdx
  split
  · rename_i h1
    obtain ⟨q, rfl⟩ := Int.eq_ofNat_of_zero_le h1.1
    obtain ⟨m, rfl⟩ := Int.eq_ofNat_of_zero_le (show 0 ≤ n by omega)
    exact read_ok (by omega) (by omega) hV h
  · rename_i h1
    refine (read_no hr h1 h).mono ?_
    rintro e w' ⟨v, rfl, rfl, rfl⟩
    exact Ret.mk ⟨_, rfl, Sl_nil h⟩
theorem refreadx_ok {p n : Int} (hr : I64 p ∧ I64 n) (hV : ∀ i, (s.V i).length ≤ 1000000) (h : SatL w (RDsk xb s :: L)) :
    Calls Try.prog 31 #[.pointer (some ⟨xb, 0, none⟩), .int .i64 p, .int .i64 n] w (Ret fun r w' => ∃ v, r = .tuple #[v, .int .i64 (s.rdx p n).2] ∧ SatL w' (SlB 5 v (s.rdx p n).1 :: RDsk xb s :: L)) := by
  unfold Dsk.rdx
  split
  · rename_i h1
    obtain ⟨q, rfl⟩ := Int.eq_ofNat_of_zero_le h1.1
    obtain ⟨m, rfl⟩ := Int.eq_ofNat_of_zero_le (show 0 ≤ n by omega)
    exact refread_ok (by omega) (by omega) hV h
  · rename_i h1
    refine (refread_no hr h1 h).mono ?_
    rintro e w' ⟨v, rfl, rfl, rfl⟩
    exact Ret.mk ⟨_, rfl, Sl_nil h⟩
theorem rowL_len (b : Nat) (N : Int) : (rowL b N).length ≤ 100000 := by
  unfold rowL
  split
  · rw [List.length_replicate]; omega
  · rw [rowB_len]; omega
/-- a row of integers that is owned -/
def intsL (n : Nat) (Z : Nat → Int) : List Value := (List.range n).map fun i => .int .i64 (Z i)
theorem intsL_len (n : Nat) (Z : Nat → Int) : (intsL n Z).length = n := by simp [intsL]
theorem Sl.gives_ints {T n c : Nat} {a : Option Addr} {Z : Nat → Int} (hn : n ≤ 9223372036854775807) : Gives (Sl T (.slice a n c) (intsL n Z) :: L) (fun w' => IsRow w' 1 a n (fun i => [.int .i64 (Z i)])) := by
  intro w' h
  refine ⟨hn, fun h0 => ?_⟩
  obtain ⟨b, off, rfl⟩ := Sl.addr h h0
  refine ⟨b, off, rfl, fun i hi => ⟨rfl, fun j v hv => ?_⟩⟩
  cases j with
  | zero =>
    cases hv
    have := Sl.cell h (i := i) (x := .int .i64 (Z i)) (by unfold intsL; simp [hi])
    rwa [Nat.mul_one, Nat.add_zero]
  | succ j => simp at hv
theorem SrcOk.ofInts {w : World} {a : Option Addr} {n c : Nat} {Z : Nat → Int} (h : IsRow w 1 a n (fun i => [.int .i64 (Z i)])) (hc : n = 0 → a = none → c = 0) : SrcOk Try.prog 30 1 w (.slice a n c) n (intsL n Z) := by
  refine ⟨by rw [intsL_len, Nat.mul_one], ?_⟩
  by_cases h0 : 0 < n
  · obtain ⟨b, o, rfl, hx⟩ := h.2 h0
    refine .inr (.inl ⟨_, _, rfl, ⟨_, Try.underlying30⟩, fun j y hy => ?_⟩)
    have hj : j < n := by have := (List.getElem?_eq_some_iff.1 hy).1; rwa [intsL_len] at this
    have e : y = .int .i64 (Z j) := by unfold intsL at hy; simp [hj] at hy; exact hy.symm
    have := (hx j hj).2 0 _ rfl
    rw [Nat.mul_one, Nat.add_zero] at this
    rw [addr_add, e]; exact this
  · obtain rfl : n = 0 := by omega
    cases a with
    | none => exact .inl ⟨by rw [hc rfl rfl], rfl, _, Try.underlying30⟩
    | some a => exact .inr (.inl ⟨_, _, rfl, ⟨_, Try.underlying30⟩, fun j y hy => by simp [intsL] at hy⟩)
end
end Go.Proofs.Ytjjiljijcigekaa
