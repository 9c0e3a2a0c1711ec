/- The document's disk as what is owned; New, At. No condition beside the sizes that it names. -/
import Derived.Test.YtjjiljijcigekaaDiskR
namespace Go.Proofs.Ytjjiljijcigekaa
set_option linter.unusedVariables false
set_option linter.unusedSimpArgs false
open Go.RowKit
structure Bk where
  p : Nat
  k : Nat
  sv : Value
  vv : Value
def BkR (s : Dsk) (b : Bk) : HP := sep [cl b.p 79 #[.int .i64 b.k, b.sv, b.vv], SlB 5 b.sv (s.P b.k), RowsL b.vv (s.V b.k)]
structure ROk (s : Dsk) (bs : List Bk) : Prop where
  bd : 1 ≤ s.n ∧ s.n ≤ 65536
  nd : (bs.map (·.k)).Nodup
  key : ∀ b ∈ bs, b.k < s.n
  off : ∀ i, i < s.n → i ∉ bs.map (·.k) → s.P i = List.replicate 512 0 ∧ s.V i = []
  pl : ∀ i, i < s.n → (s.P i).length = 512
  row : ∀ i, ∀ r ∈ s.V i, r.length = 512
def bptr (b : Bk) : Value := .pointer (some ⟨b.p, 0, none⟩)
def RDsk (xb : Nat) (s : Dsk) : HP := ex fun lv => ex fun bs : List Bk => sep [pur (ROk s bs), cl xb 54 #[.int .i64 s.n, lv], Sl 76 lv (bs.map bptr), big (BkR s) bs]
theorem nodup_lt : ∀ (n : Nat) (l : List Nat), l.Nodup → (∀ k ∈ l, k < n) → l.length ≤ n
  | 0, l, _, h => by
    cases l with
    | nil => exact Nat.le_refl _
    | cons a l => exact absurd (h a List.mem_cons_self) (by omega)
  | n + 1, l, hn, h => by
    have h1 := nodup_lt n (l.erase n) (hn.erase n) (fun k hk => by
      have := (List.Nodup.mem_erase_iff hn).1 hk
      have := h k this.2
      omega)
    rw [List.length_erase] at h1
    split at h1 <;> omega
theorem ROk.few {s : Dsk} {bs : List Bk} (ok : ROk s bs) : bs.length ≤ s.n := by
  have h1 := nodup_lt s.n (bs.map (·.k)) ok.nd (fun k hk => by obtain ⟨b, hb, rfl⟩ := List.mem_map.1 hk; exact ok.key b hb)
  rwa [List.length_map] at h1
section
variable {w : World} {L : List HP} {xb : Nat} {s : Dsk} {lv : Value} {bs : List Bk}
theorem sat_BkR {b : Bk} : SatL w (BkR s b :: L) ↔ SatL w (cl b.p 79 #[.int .i64 b.k, b.sv, b.vv] :: SlB 5 b.sv (s.P b.k) :: RowsL b.vv (s.V b.k) :: L) := sat_sep
theorem sat_RDsk : SatL w (RDsk xb s :: L) ↔ ∃ lv bs, ROk s bs ∧ SatL w (cl xb 54 #[.int .i64 s.n, lv] :: Sl 76 lv (bs.map bptr) :: big (BkR s) bs :: L) := by
  simp only [RDsk, sat_ex, sat_sep, List.cons_append, List.nil_append, sat_pur]
theorem bk_cells {b : Bk} (hb : b ∈ bs) (h : SatL w (big (BkR s) bs :: L)) : w.cell? ⟨b.p, 0, none⟩ = some (.int .i64 b.k) ∧ w.cell? ⟨b.p, 1, none⟩ = some b.sv ∧ w.cell? ⟨b.p, 2, none⟩ = some b.vv := by
  obtain ⟨A, B, rfl⟩ := List.append_of_mem hb
  have h2 := sat_BkR.1 (big_mid.1 h)
  exact ⟨SatL.cell h2 (i := 0) rfl, SatL.cell h2 (i := 1) rfl, SatL.cell h2 (i := 2) rfl⟩
set_option maxHeartbeats 1000000 in
theorem refnew_ok {n : Nat} (hn : 1 ≤ n ∧ n ≤ 65536) (h : SatL w L) :
    Calls Try.prog 19 #[.int .i64 n] w (Ret fun r w' => ∃ xb, r = .tuple #[.pointer (some ⟨xb, 0, none⟩), .int .i64 0] ∧ SatL w' (RDsk xb (Dsk.new n) :: L)) := by
  have h1 := h.alloc (.cells #[.int .i64 n, .slice none 0 0] 54)
  go_enter Try.func19, Try.ntmps19
  go_wp2
  go_ret2
  have h2 := (Sl_nil (T := 76) ((big_nil (f := BkR (Dsk.new n))).2 h1))
  exact Ret.mk ⟨_, rfl, sat_RDsk.2 ⟨_, [], ⟨hn, by simp, fun b hb => absurd hb List.not_mem_nil, fun i _ _ => ⟨rfl, rfl⟩, fun i _ => List.length_replicate .., fun i r hr => absurd (show r ∈ ([] : List (List UInt8)) from hr) List.not_mem_nil⟩, h2.bring [2, 0, 1]⟩⟩
set_option maxHeartbeats 1000000 in
theorem at_eq {i : Nat} (hl : bs.length ≤ 65536) (h : SatL w (cl xb 54 #[.int .i64 s.n, lv] :: Sl 76 lv (bs.map bptr) :: big (BkR s) bs :: L)) :
    Calls Try.prog 36 #[.pointer (some ⟨xb, 0, none⟩), .int .i64 i] w (Ret fun r w' => ((i ∉ bs.map (·.k) ∧ r = .pointer none) ∨ ∃ b, b ∈ bs ∧ b.k = i ∧ r = bptr b) ∧ w = w') := by
  obtain ⟨a, c, rfl, q1, q2⟩ := Sl.valn (SatL.pull h 1 : SatL w (Sl _ _ _ :: _)) (m := bs.length) (by rw [List.length_map])
  have c1 := SatL.cell h (i := 1) (v := .slice a bs.length c) rfl
  go_enter Try.func36, Try.ntmps36
  go_wp2
  go_loopw [5] (fun v wr => ∃ j : Nat, j ≤ bs.length ∧ v = .int .i64 j ∧ (∀ q b, q < j → bs[q]? = some b → ¬ b.k = i) ∧ w = wr) (fun v _ => bs.length - (intOf v).toNat)
  case atStart => exact ⟨0, by omega, rfl, fun q b hq => by omega, rfl⟩
  case round =>
    obtain ⟨j, hj, rfl, hno, rfl⟩ := hrel
    have Hno := hid hno
    clear hno
    by_cases hlt : j < bs.length
    · obtain ⟨x, hx⟩ : ∃ x, bs[j]? = some x := ⟨_, List.getElem?_eq_getElem hlt⟩
      obtain ⟨b, o, rfl⟩ := Sl.addr (SatL.pull h 1 : SatL w (Sl _ _ _ :: _)) (by omega)
      have cj := Sl.cell (SatL.pull h 1 : SatL w (Sl _ _ _ :: _)) (i := j) (x := .pointer (some ⟨x.p, 0, none⟩)) (by rw [List.getElem?_map, hx]; rfl)
      have ck := (bk_cells (List.mem_of_getElem? hx) (SatL.pull h 2 : SatL w (big _ _ :: _))).1
      have hjz : (j : Int) < (bs.length : Int) := by omega
      have Hx := hid hx
      have Hh := hid h
      clear hx h
      by_cases hk : x.k = i
      · have hkz : (x.k : Int) = (i : Int) := by omega
        have Hk := hid hk
        clear hk
        go_wp2
        go_ret
        exact Ret.mk ⟨.inr ⟨x, List.mem_of_getElem? Hx.out, Hk.out, rfl⟩, rfl⟩
      · have hkz : ¬ (x.k : Int) = (i : Int) := by omega
        have hn2 := hid (show ∀ q b, q < j + 1 → bs[q]? = some b → ¬ b.k = i from fun q b' hq hb => by
          rcases Nat.lt_or_ge q j with h1 | h1
          · exact Hno.out q b' h1 hb
          · obtain rfl : q = j := by omega
            rw [Hx.out] at hb
            cases hb; exact hk)
        clear hk
        go_wp2
        go_roundw
        case rel => exact ⟨j + 1, by omega, by go_num, hn2.out, trivial⟩
        case measure => simp [intOf]; omega
    · obtain rfl : j = bs.length := by omega
      have hni : i ∉ bs.map (·.k) := by
        intro hm
        obtain ⟨b, hb, hbk⟩ := List.mem_map.1 hm
        obtain ⟨q, hq, hqb⟩ := List.getElem_of_mem hb
        exact Hno.out q b hq (List.getElem?_eq_some_iff.2 ⟨hq, hqb⟩) hbk
      have Hni := hid hni
      clear hni h
      go_wp2
      go_ret
      exact Ret.mk ⟨.inl ⟨Hni.out, rfl⟩, rfl⟩
end
end Go.Proofs.Ytjjiljijcigekaa
