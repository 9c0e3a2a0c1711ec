/- Disks as what is owned, and their calls that read. No condition beside the sizes that it names. -/
import Derived.Test.YtjjiljijcigekaaMapF
import Derived.Test.YtjjiljijcigekaaRd
import Derived.Test.YtjjiljijcigekaaClone2
namespace Go.Proofs.Ytjjiljijcigekaa
set_option linter.unusedVariables false
set_option linter.unusedSimpArgs false
open Go.RowKit

/-- a disk: so many blocks, what stays of each, and what was written since -/
structure Dsk where
  n : Nat
  P : Nat → List UInt8
  V : Nat → List (List UInt8)
def rowAt (b : List UInt8) (i : Nat) : List UInt8 := (b.drop (512 * i)).take 512
theorem rowAt_len {b : List UInt8} {i n : Nat} (hb : b.length = 512 * n) (h : i < n) : (rowAt b i).length = 512 := by
  unfold rowAt
  rw [List.length_take, List.length_drop]; omega
structure Rw where
  v : Value
  d : List UInt8
def RowsR (v : Value) (rs : List Rw) : HP := sep [Sl 33 v (rs.map (·.v)), big (fun r : Rw => SlB 5 r.v r.d) rs]
def RowsL (v : Value) (l : List (List UInt8)) : HP := ex fun rs : List Rw => sep [pur (rs.map (·.d) = l), RowsR v rs]
def vf (V : Nat → List (List UInt8)) : Int → Option (List (List UInt8)) := fun k => if 0 ≤ k ∧ V k.toNat ≠ [] then some (V k.toNat) else none
structure DOk (s : Dsk) (fl : List UInt8) : Prop where
  bd : 1 ≤ s.n ∧ s.n ≤ 65536
  len : fl.length = 512 * s.n
  pl : ∀ i, i < s.n → rowAt fl i = s.P i
  out : ∀ i, s.n ≤ i → s.V i = []
  row : ∀ i, ∀ r ∈ s.V i, r.length = 512
def DskR (db : Nat) (s : Dsk) : HP := ex fun pv => ex fun m : Nat => ex fun fl => sep [pur (DOk s fl), cl db 59 #[pv, .map (some m)], SlB 5 pv fl, MapF RowsL m (vf s.V)]
/-- a block as it was written last -/
def Dsk.cur (s : Dsk) (i : Nat) : List UInt8 := match (s.V i).getLast? with | some r => r | none => s.P i
def Dsk.read (s : Dsk) (p n : Nat) : List UInt8 := ((List.range n).map fun j => s.cur (p + j)).flatten
theorem read_snoc (s : Dsk) (p n : Nat) : s.read p (n + 1) = s.read p n ++ s.cur (p + n) := by
  unfold Dsk.read; rw [List.range_succ, List.map_append, List.flatten_append]; simp
theorem vf_none {V : Nat → List (List UInt8)} {i : Nat} (h : V i = []) : vf V (i : Int) = none := by unfold vf; rw [if_neg]; rintro ⟨_, h2⟩; exact h2 (by rw [Int.toNat_natCast]; exact h)
theorem vf_some {V : Nat → List (List UInt8)} {i : Nat} (h : V i ≠ []) : vf V (i : Int) = some (V i) := by unfold vf; rw [if_pos ⟨by omega, by rw [Int.toNat_natCast]; exact h⟩, Int.toNat_natCast]
theorem key_vers : KeyInt Try.prog 57 64 (.slice none 0 0) := .of (kt := 3) (by kernel_rfl) (by kernel_rfl) (by kernel_rfl)

section
variable {w : World} {L : List HP} {db m : Nat} {s : Dsk} {V : Nat → List (List UInt8)}
theorem sat_RowsR {v : Value} {rs : List Rw} : SatL w (RowsR v rs :: L) ↔ SatL w (Sl 33 v (rs.map (·.v)) :: big (fun r : Rw => SlB 5 r.v r.d) rs :: L) := sat_sep
theorem sat_RowsL {v : Value} {l : List (List UInt8)} : SatL w (RowsL v l :: L) ↔ ∃ rs : List Rw, rs.map (·.d) = l ∧ SatL w (RowsR v rs :: L) := by
  simp only [RowsL, sat_ex, sat_sep, List.cons_append, List.nil_append, sat_pur]
theorem sat_DskR : SatL w (DskR db s :: L) ↔ ∃ pv m fl, DOk s fl ∧ SatL w (cl db 59 #[pv, .map (some m)] :: SlB 5 pv fl :: MapF RowsL m (vf s.V) :: L) := by
  simp only [DskR, sat_ex, sat_sep, List.cons_append, List.nil_append, sat_pur]
/-- rows that are owned, as they read -/
theorem RowsL.rd {v : Value} {l : List (List UInt8)} (h : SatL w (RowsL v l :: L)) : ∃ a c, v = .slice a l.length c ∧ l.length ≤ c ∧ c ≤ 9223372036854775807 ∧ (0 < l.length → ∃ b off, a = some ⟨b, off, none⟩ ∧ ∀ (j : Nat) r, l[j]? = some r → ∃ u, w.cell? ⟨b, off + j, none⟩ = some u ∧ RdB u r w) := by
  obtain ⟨rs, rfl, h1⟩ := sat_RowsL.1 h
  have h2 := sat_RowsR.1 h1
  obtain ⟨a, c, rfl, h3, h4⟩ := Sl.valn h2 (m := rs.length) (by rw [List.length_map])
  rw [List.length_map]
  refine ⟨a, c, rfl, h3, h4, fun h0 => ?_⟩
  obtain ⟨b, off, rfl⟩ := Sl.addr h2 h0
  refine ⟨b, off, rfl, fun j r hr => ?_⟩
  rw [List.getElem?_map] at hr
  obtain ⟨x, hx, rfl⟩ := Option.map_eq_some_iff.1 hr
  refine ⟨x.v, Sl.cell h2 (by rw [List.getElem?_map, hx]; rfl), ?_⟩
  obtain ⟨p, q, rfl⟩ := List.append_of_mem (List.mem_of_getElem? hx)
  have h5 := (big_mid (f := fun r : Rw => SlB 5 r.v r.d)).1 h2.swap
  exact SlB.rd (h5 : SatL w (SlB 5 x.v x.d :: _))
/-- what the map of versions tells of a block -/
theorem vers_look (h : SatL w (MapF RowsL m (vf V) :: L)) (i : Nat) : ∃ u, (Instr.lookup 57 (.map (some m)) (.int .i64 (i : Int)) false).run Try.prog w = .ok u w ∧
    ((V i = [] ∧ u = .slice none 0 0) ∨ (V i ≠ [] ∧ ∃ b off c, u = .slice (some ⟨b, off, none⟩) (V i).length c ∧ (V i).length ≤ c ∧ c ≤ 9223372036854775807 ∧ ∀ (j : Nat) r, (V i)[j]? = some r → ∃ u, w.cell? ⟨b, off + j, none⟩ = some u ∧ RdB u r w)) := by
  obtain ⟨es, R, L', h1, h2, _, _⟩ := mapf_open h (i : Int)
  have hrun := run_lookup_sl key_vers (SatL.pull h1 1 : SatL w (MapI m es :: _)) (i : Int)
  by_cases hv : V i = []
  · rw [vf_none hv] at h2
    simp only at h2
    rw [h2] at hrun
    exact ⟨_, hrun, .inl ⟨hv, rfl⟩⟩
  · rw [vf_some hv] at h2
    simp only at h2
    obtain ⟨v, h3, rfl⟩ := h2
    rw [h3] at hrun
    refine ⟨_, hrun, .inr ⟨hv, ?_⟩⟩
    obtain ⟨a, c, e, q1, q2, hx⟩ := RowsL.rd h1
    obtain ⟨b, off, rfl, hx2⟩ := hx (List.length_pos_iff.2 hv)
    exact ⟨b, off, c, e, q1, q2, hx2⟩
/-- what stays of a block, as it reads -/
theorem plat_row {b off c : Nat} {fl : List UInt8} {n i : Nat} (hl : fl.length = 512 * n) (hi : i < n) (h : RdB (.slice (some ⟨b, off, none⟩) (512 * n) c) fl w) : RdB (.slice (some ⟨b, off + 512 * i, none⟩) 512 (c - 512 * i)) (rowAt fl i) w := by
  have := h.sub (i := 512 * i) (j := 512 * i + 512) (by omega) (by omega)
  rw [List.drop_take, show 512 * i + 512 - 512 * i = 512 by omega] at this
  exact this
theorem DskR.form (h : SatL w (DskR db s :: L)) : ∃ b off c m fl, DOk s fl ∧ 512 * s.n ≤ c ∧ c ≤ 9223372036854775807 ∧ SatL w (cl db 59 #[.slice (some ⟨b, off, none⟩) (512 * s.n) c, .map (some m)] :: SlB 5 (.slice (some ⟨b, off, none⟩) (512 * s.n) c) fl :: MapF RowsL m (vf s.V) :: L) := by
  obtain ⟨pv, m, fl, ok, h1⟩ := sat_DskR.1 h
  have h2 : SatL w (SlB 5 pv fl :: _) := SatL.pull h1 1
  obtain ⟨a, c, rfl, q1, q2⟩ := SlB.valn h2
  have := ok.bd
  have hl := ok.len
  obtain ⟨b, off, rfl⟩ := Sl.addr h2 (by omega)
  rw [hl] at h1 q1
  exact ⟨b, off, c, m, fl, ok, q1, q2, h1⟩

theorem blocks_eq (h : SatL w (DskR db s :: L)) : Calls Try.prog 33 #[.pointer (some ⟨db, 0, none⟩)] w (Ret fun r w' => r = .int .i64 s.n ∧ w = w') := by
  obtain ⟨b, off, c, m, fl, ok, q1, q2, h1⟩ := DskR.form h
  have c0 := SatL.cell h1 (i := 0) (v := .slice (some ⟨b, off, none⟩) (512 * s.n) c) rfl
  have hb := ok.bd
  have e1 : ((512 * s.n : Nat) : Int) / 512 = s.n := by omega
  obtain ⟨z, hz⟩ : ∃ z, z = 512 * s.n := ⟨_, rfl⟩
  rw [← hz] at c0 e1
  go_enter Try.func33, Try.ntmps33
  clear h1 hz
  go_wp2
  go_ret
  exact Ret.mk ⟨by simp [e1], rfl⟩
theorem has_yes {p n : Int} (h : SatL w (DskR db s :: L)) (hy : 0 ≤ p ∧ 0 < n ∧ n ≤ s.n ∧ p ≤ (s.n : Int) - n) : Calls Try.prog 22 #[.pointer (some ⟨db, 0, none⟩), .int .i64 p, .int .i64 n] w (Ret fun r w' => r = .bool true ∧ w = w') := by
  have hbl := blocks_eq h
  have hbd : s.n ≤ 65536 := by obtain ⟨_, _, _, _, _, ok, _⟩ := DskR.form h; exact ok.bd.2
  obtain ⟨g1, g2, g3, g4⟩ := hy
  go_enter Try.func22, Try.ntmps22
  go_wp2_with (first | (go_at_call 33; (with_reducible refine hbl.mono ?_); rintro e w' ⟨v, rfl, rfl, rfl⟩))
  go_ret
  exact Ret.mk ⟨rfl, rfl⟩
end
end Go.Proofs.Ytjjiljijcigekaa
