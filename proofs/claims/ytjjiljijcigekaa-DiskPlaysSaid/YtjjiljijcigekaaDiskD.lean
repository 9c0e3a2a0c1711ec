/- Disks: Dirty. No condition. -/
import Derived.Test.YtjjiljijcigekaaDiskR
import Derived.Test.YtjjiljijcigekaaRange
import Derived.Test.YtjjiljijcigekaaSortInts
namespace Go.Proofs.Ytjjiljijcigekaa
set_option linter.unusedVariables false
set_option linter.unusedSimpArgs false
open Go.RowKit
/-- the blocks that were written since -/
def Dsk.dirtyN (s : Dsk) : List Nat := (List.range s.n).filter fun i => !(s.V i).isEmpty
def Dsk.dirty (s : Dsk) : List Int := s.dirtyN.map fun i : Nat => (i : Int)
theorem dirtyN_mem {s : Dsk} {fl : List UInt8} (ok : DOk s fl) {i : Nat} : i ∈ s.dirtyN ↔ s.V i ≠ [] := by
  unfold Dsk.dirtyN
  rw [List.mem_filter, List.mem_range, Bool.not_eq_true', List.isEmpty_eq_false_iff]
  constructor
  · exact fun h => h.2
  · exact fun h => ⟨by rcases Nat.lt_or_ge i s.n with h1 | h1; exact h1; exact absurd (ok.out i h1) h, h⟩
theorem dirty_sorted (s : Dsk) : s.dirty.Pairwise (· ≤ ·) := by
  unfold Dsk.dirty Dsk.dirtyN
  rw [List.pairwise_map]
  have : (List.range s.n).Pairwise (· < ·) := List.pairwise_lt_range
  exact (this.filter _).imp (fun h => by omega)
theorem dirty_nodup (s : Dsk) : s.dirty.Nodup := by
  unfold Dsk.dirty Dsk.dirtyN
  rw [List.Nodup, List.pairwise_map]
  have : (List.range s.n).Pairwise (· < ·) := List.pairwise_lt_range
  exact (this.filter _).imp (fun h => by omega)
theorem mem_rfm {α : Type} {rs : List (Rf α)} {k : Int} : k ∈ mkeys (rfm rs) ↔ (ofget rs k).isSome = true := by
  unfold ofget
  rw [Option.isSome_map, List.find?_isSome]
  unfold mkeys rfm
  rw [List.map_map, List.mem_map]
  constructor
  · rintro ⟨r, hr, rfl⟩; exact ⟨r, hr, by simp⟩
  · rintro ⟨r, hr, h⟩; exact ⟨r, hr, by simpa using h⟩
theorem keys_dirty {s : Dsk} {fl : List UInt8} (ok : DOk s fl) {rs : List (Rf (List (List UInt8)))} (h : vf s.V = ofget rs) (hn : (mkeys (rfm rs)).Nodup) : (mkeys (rfm rs)).Perm s.dirty := by
  refine (List.perm_ext_iff_of_nodup hn (dirty_nodup s)).2 fun k => ?_
  rw [mem_rfm, ← h]
  unfold vf Dsk.dirty
  rw [List.mem_map]
  constructor
  · intro hk
    split at hk
    · rename_i hc
      exact ⟨k.toNat, (dirtyN_mem ok).2 hc.2, by omega⟩
    · cases hk
  · rintro ⟨i, hi, rfl⟩
    rw [if_pos ⟨by omega, by rw [Int.toNat_natCast]; exact (dirtyN_mem ok).1 hi⟩]; rfl
theorem dirty_len (s : Dsk) : s.dirty.length ≤ s.n := by
  unfold Dsk.dirty Dsk.dirtyN
  rw [List.length_map]
  exact Nat.le_trans (List.length_filter_le _ _) (by rw [List.length_range]; exact Nat.le_refl _)
def lenV (v : Value) : Nat := match v with | .slice _ n _ => n | _ => 0
theorem elem_int : ElemOk Try.prog 30 3 1 8 [Value.int .i64 0] := .of (z := Value.int .i64 0) (by kernel_rfl) (by kernel_rfl) rfl rfl (by decide) (by simp [Value.oneCell'])
section
variable {w : World} {L : List HP} {db : Nat} {s : Dsk}
set_option maxHeartbeats 2000000 in
theorem dirty_ok (h : SatL w (DskR db s :: L)) :
    Calls Try.prog 14 #[.pointer (some ⟨db, 0, none⟩)] w (Ret fun r w' => SatL w' (Sl 3 r (s.dirty.map (Value.int .i64)) :: DskR db s :: L)) := by
  obtain ⟨b, off, c, m, fl, ok, q1, q2, h1⟩ := DskR.form h
  have c1 := SatL.cell h1 (i := 1) (v := .map (some m)) rfl
  obtain ⟨rs, hrs, h2⟩ := sat_MapF.1 (SatL.pull h1 2 : SatL w (MapF RowsL m (vf s.V) :: _))
  have hnd := MapI.nodup h2
  have hkd := keys_dirty ok hrs hnd
  have hln : (rfm rs).length ≤ 65536 := by
    have e1 := hkd.length_eq
    have e2 : (mkeys (rfm rs)).length = (rfm rs).length := List.length_map _
    have e3 := dirty_len s
    have := ok.bd.2
    omega
  obtain ⟨w1, hrun, h3⟩ := run_range_sl (P := Try.prog) (t := 57) (kt := 3) (e0 := 64) (by kernel_rfl) h2
  have Ok := hid ok
  have Hrs := hid hrs
  have Hkd := hid hkd
  clear ok hrs hkd hnd h h1 h2
  have hback : ∀ w' L', SatL w' (MapI m (rfm rs) :: big (fun r : Rf (List (List UInt8)) => RowsL r.v r.xs) rs :: cl db 59 #[.slice (some ⟨b, off, none⟩) (512 * s.n) c, .map (some m)] :: SlB 5 (.slice (some ⟨b, off, none⟩) (512 * s.n) c) fl :: L') → SatL w' (DskR db s :: L') := by
    intro w' L' h
    have h1 := sat_MapF.2 ⟨rs, Hrs.out, h⟩
    exact sat_DskR.2 ⟨_, _, _, Ok.out, h1.bring [1, 2, 0]⟩
  have Hback := hid hback
  clear hback
  generalize rfm rs = es at *
  generalize w.heap.size = ib at *
  go_enter Try.func14, Try.ntmps14
  go_wp2
  go_loopw [3] (fun out wr => ∃ (K : List Int) (left : IM), (K ++ mkeys left).Perm (mkeys es) ∧ SatL wr (Sl 3 out (K.map (Value.int .i64)) :: MapRg m ib es left :: big (fun r : Rf (List (List UInt8)) => RowsL r.v r.xs) rs :: cl db 59 #[.slice (some ⟨b, off, none⟩) (512 * s.n) c, .map (some m)] :: SlB 5 (.slice (some ⟨b, off, none⟩) (512 * s.n) c) fl :: L)) (fun out _ => es.length - lenV out)
  case atStart => exact ⟨[], es, List.Perm.refl _, Sl_nil h3⟩
  case round =>
    clear h3 hrun c1
    obtain ⟨K, left, hp, hs⟩ := hrel
    have hlen : K.length + left.length = es.length := by
      have := hp.length_eq
      rw [List.length_append] at this
      have e1 : (mkeys left).length = left.length := List.length_map _
      have e2 : (mkeys es).length = es.length := List.length_map _
      omega
    rcases run_next_sl (P := Try.prog) 0 (SatL.pull hs 1 : SatL wr (MapRg m ib es left :: _)) with ⟨hl, hrun⟩ | ⟨L1, L2, p, w2, hl, hrun, h4⟩
    · have hr' : ∀ ty, (Instr.next (.pointer (some ⟨ib, 0, none⟩)) false ty).run Try.prog wr = .ok (.tuple #[.bool false]) wr := fun ty => hrun
      subst hl
      have hso := sort_ok hs (by have : ([] : IM).length = 0 := rfl; omega)
      have he : ups K = s.dirty := ups_unique (by rw [show mkeys ([] : IM) = [] from rfl, List.append_nil] at hp; exact hp.trans Hkd.out) (dirty_sorted s)
      rw [he] at hso
      clear hp hlen hrun he hs
      go_wp2_with (first | (go_at_call 26; (with_reducible refine hso.mono ?_); rintro e w3 ⟨v, rfl, rfl, h5⟩))
      go_ret
      exact Ret.mk (SatL.swap (Hback.out _ _ (MapRg.map (h5.bring [1, 2, 3, 4, 0]))))
    · have hr' : ∀ ty, (Instr.next (.pointer (some ⟨ib, 0, none⟩)) false ty).run Try.prog wr = .ok (.tuple #[.bool true, .int .i64 p.1, p.2]) w2 := fun ty => hrun
      have hen := run_entry_sl (P := Try.prog) h4
      have hs2 := SatL.swap (MapRgAt.rg h4)
      obtain ⟨oa, oc, rfl, o1, o2⟩ := Sl.valn hs2 (m := K.length) (by rw [List.length_map])
      have hpl : left.length = L1.length + (L2.length + 1) := by rw [hl, List.length_append, List.length_cons]
      have b1 : ((K.map (Value.int .i64)).length + 1) * 8 ≤ 140737488355328 := by rw [List.length_map]; omega
      have hp2 : Hid (((K ++ [p.1]) ++ mkeys (L1 ++ L2)).Perm (mkeys es)) := hid (by
        refine List.Perm.trans ?_ hp
        rw [hl]
        unfold mkeys
        rw [List.map_append, List.map_append, List.map_cons, List.append_assoc]
        exact ((List.perm_middle (a := p.1) (l₁ := L1.map (·.1)) (l₂ := L2.map (·.1))).symm).append_left K)
      have Hlen := hid hlen
      have Hpl := hid hpl
      clear hl hpl hlen hp hs h4 hrun
      generalize L1 ++ L2 = left2 at *
      obtain ⟨pk, pv⟩ := p
      simp only at *
      go_wp2_with (first | (at_builtin; refine wpList_push_sl rfl (.tmp 14) (.tmp 16) rfl elem_int (by omega) rfl hs2 rfl rfl b1 ?_; intro v' w6 h6; obtain ⟨va, vc, rfl, _, _⟩ := Sl.valn h6 (m := K.length + 1) (by rw [List.length_append, List.length_map]; rfl)))
      go_roundw
      case rel => exact ⟨K ++ [pk], left2, hp2.out, by rw [List.map_append]; exact h6⟩
      case measure => have := Hlen.out; have := Hpl.out; simp [lenV]; omega
end
end Go.Proofs.Ytjjiljijcigekaa
