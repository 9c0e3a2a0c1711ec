/- Disks: Crash. No condition beside the sizes that it names. -/
import Derived.Test.YtjjiljijcigekaaDiskF
import Derived.Test.YtjjiljijcigekaaArg
namespace Go.Proofs.Ytjjiljijcigekaa
set_option linter.unusedVariables false
set_option linter.unusedSimpArgs false
open Go.RowKit
/-- which version is picked for the q-th dirty block, of so many: 0: what stays -/
def pickN (n : Nat) (Z : Nat → Int) (q len : Nat) : Nat := if q < n then ((Z q) % ((len + 1 : Nat) : Int)).toNat else 0
/-- the platter when q dirty blocks have been settled -/
def Dsk.cp (s : Dsk) (n : Nat) (Z : Nat → Int) : Nat → Nat → List UInt8
  | 0, i => s.P i
  | q + 1, i => if s.dirtyN[q]? = some i ∧ pickN n Z q (s.V i).length ≠ 0 then (s.V i).getD (pickN n Z q (s.V i).length - 1) [] else s.cp n Z q i
def Dsk.crash (s : Dsk) (n : Nat) (Z : Nat → Int) : Dsk := ⟨s.n, s.cp n Z s.dirtyN.length, fun _ => []⟩
theorem pickN_le (n : Nat) (Z : Nat → Int) (q len : Nat) : pickN n Z q len ≤ len := by
  unfold pickN
  split
  · have h1 := Int.emod_nonneg (Z q) (show ((len + 1 : Nat) : Int) ≠ 0 by omega)
    have h2 := Int.emod_lt_of_pos (Z q) (show 0 < ((len + 1 : Nat) : Int) by omega)
    omega
  · omega
theorem tmod_two (z : Int) (n : Nat) : Int.tmod (Int.tmod z ((n + 1 : Nat) : Int) + ((n + 1 : Nat) : Int)) ((n + 1 : Nat) : Int) = z % ((n + 1 : Nat) : Int) := by
  have hn : 0 < ((n + 1 : Nat) : Int) := by omega
  have h1 := Int.lt_tmod_of_pos z hn
  have h2 := Int.tmod_lt_of_pos z hn
  rw [Int.tmod_eq_emod_of_nonneg (by omega), Int.add_emod_right]
  have := Int.tmod_def z ((n + 1 : Nat) : Int)
  rw [this, Int.sub_mul_emod_self_left]
section
variable {w : World} {L : List HP} {db : Nat} {s : Dsk}
set_option maxRecDepth 100000 in
set_option maxHeartbeats 4000000 in
theorem crash_ok {a : Option Addr} {n c : Nat} {Z : Nat → Int} (hZ : ∀ i, i < n → -9223372036854775808 ≤ Z i ∧ Z i ≤ 9223372036854775807) (hV : ∀ i, (s.V i).length ≤ 1000000) (h : SatL w (DskR db s :: L)) (g : Gives L (fun w' => IsRow w' 1 a n (fun i => [.int .i64 (Z i)]))) :
    Calls Try.prog 17 #[.pointer (some ⟨db, 0, none⟩), .slice a n c] w (Ret fun r w' => r = .int .i64 s.dirtyN.length ∧ SatL w' (DskR db (s.crash n Z) :: L)) := by
  have hdi := dirty_ok h
  have hsn : s.n ≤ 65536 := by obtain ⟨_, _, _, _, _, ok, _⟩ := DskR.form h; exact ok.bd.2
  have hdl : s.dirty.length = s.dirtyN.length := List.length_map _
  have hDn : s.dirtyN.length ≤ 65536 := by have := dirty_len s; omega
  have Hg := hid g
  have HV := hid hV
  have HZ := hid hZ
  clear h g hV hZ
  go_enter Try.func17, Try.ntmps17
  go_wp2_with (first | (go_at_call 14; (with_reducible refine hdi.mono ?_); rintro e w2 ⟨lv, rfl, h2⟩; obtain ⟨la, lc, rfl, l1, l2⟩ := Sl.valn h2 (m := s.dirtyN.length) (by rw [List.length_map, hdl])))
  obtain ⟨b, off, c0, m, fl, ok, q1, q2, h3⟩ := DskR.form (SatL.pull h2 1 : SatL w2 (DskR db s :: _))
  have Ok := hid ok
  have h0 := hid (And.intro ok.len ok.pl)
  have hnz : n ≤ 9223372036854775807 := (Hg.out _ h2.tail.tail).1
  clear ok h2 hdi
  go_loopw [15] (fun v wr => ∃ (q : Nat) (fl' : List UInt8), q ≤ s.dirtyN.length ∧ v = .int .i64 q ∧ (fl'.length = 512 * s.n ∧ ∀ i, i < s.n → rowAt fl' i = s.cp n Z q i) ∧ SatL wr (SlB 5 (.slice (some ⟨b, off, none⟩) (512 * s.n) c0) fl' :: Sl 3 (.slice la s.dirtyN.length lc) (s.dirty.map (Value.int .i64)) :: MapF RowsL m (vf s.V) :: cl db 59 #[.slice (some ⟨b, off, none⟩) (512 * s.n) c0, .map (some m)] :: L)) (fun v _ => s.dirtyN.length - (intOf v).toNat)
  case atStart => exact ⟨0, fl, by omega, rfl, h0.out, h3.bring [1, 3, 2, 0]⟩
  case round =>
    clear h3 h0
    obtain ⟨q, fl', hq, rfl, hF, hs⟩ := hrel
    have c1 := SatL.cell (SatL.pull hs 3 : SatL wr (cl db _ _ :: _)) (i := 1) (v := .map (some m)) rfl
    by_cases hlt : q < s.dirtyN.length
    · obtain ⟨i, hi⟩ : ∃ i, s.dirtyN[q]? = some i := ⟨_, List.getElem?_eq_getElem hlt⟩
      have hVne := (dirtyN_mem Ok.out).1 (List.mem_of_getElem? hi)
      have hin : i < s.n := by
        rcases Nat.lt_or_ge i s.n with h1 | h1
        · exact h1
        · exact absurd (Ok.out.out _ h1) hVne
      obtain ⟨lb, lo, rfl⟩ := Sl.addr (SatL.pull hs 1 : SatL wr (Sl _ _ _ :: _)) (by omega)
      have cq := Sl.cell (SatL.pull hs 1 : SatL wr (Sl _ _ _ :: _)) (i := q) (x := .int .i64 (i : Int)) (by rw [List.getElem?_map]; unfold Dsk.dirty; rw [List.getElem?_map, hi]; rfl)
      obtain ⟨u, hlk, hu⟩ := vers_look (SatL.pull hs 2 : SatL wr (MapF RowsL m (vf s.V) :: _)) i
      rcases hu with ⟨hv, _⟩ | ⟨_, vb, vo, vc, rfl, w1, w2, hrd⟩
      · exact absurd hv hVne
      have hVl := HV.out i
      obtain ⟨K, hK⟩ : ∃ K, K = pickN n Z q (s.V i).length := ⟨_, rfl⟩
      have hKl : K ≤ (s.V i).length := by rw [hK]; exact pickN_le _ _ _ _
      have hcp : ∀ j, s.cp n Z (q + 1) j = if j = i ∧ K ≠ 0 then (s.V i).getD (K - 1) [] else s.cp n Z q j := by
        intro j
        show (if _ then _ else _) = _
        by_cases hj : j = i
        · subst hj
          rw [hi, ← hK]
          simp
        · rw [if_neg (fun e => hj (by have := e.1; rw [hi] at this; injection this with this; exact this.symm)), if_neg (fun e => hj e.1)]
      have hz : K = 0 → (fl'.length = 512 * s.n ∧ ∀ j, j < s.n → rowAt fl' j = s.cp n Z (q + 1) j) := fun hK0 => ⟨hF.1, fun j hj => by rw [hcp j, if_neg (fun e => e.2 hK0)]; exact hF.2 j hj⟩
      have Hz := hid hz
      clear hz
      by_cases hqn : q < n
      · obtain ⟨pb, po, rfl, hx⟩ := (Hg.out wr hs.tail.tail.tail.tail).2 (by omega)
        have cz := (hx q hqn).2 0 _ rfl
        rw [Nat.mul_one, Nat.add_zero] at cz
        have hzr := HZ.out q hqn
        have hKe : (K : Int) = (Z q) % (((s.V i).length + 1 : Nat) : Int) := by
          rw [hK]; unfold pickN
          rw [if_pos hqn]
          have := Int.emod_nonneg (Z q) (show (((s.V i).length + 1 : Nat) : Int) ≠ 0 by omega)
          omega
        have e1 := tmod_two (Z q) (s.V i).length
        rw [← hKe] at e1
        have b1 := Int.lt_tmod_of_pos (Z q) (show 0 < (((s.V i).length + 1 : Nat) : Int) by omega)
        have b2 := Int.tmod_lt_of_pos (Z q) (show 0 < (((s.V i).length + 1 : Nat) : Int) by omega)
        clear hx hK hKe
        push_cast at e1 b1 b2
        by_cases hK0 : K = 0
        · have hnew := hid (Hz.out hK0)
          subst hK0
          clear hcp hF hrd hi hVne
          generalize (s.V i).length = vl at *
          generalize Z q = z at *
          obtain ⟨t, ht⟩ : ∃ t, t = Int.tmod z ((vl : Int) + 1) := ⟨_, rfl⟩
          rw [← ht] at e1 b1 b2
          have ht' := ht.symm
          clear ht
          have ew1 : IntKind.i64.wrap t = t := IntWalk.i64_in _ (by omega)
          have hN0 : ¬ ((vl : Int) + 1 = 0) := by omega
          clear Hz
          go_wp2
          go_roundw
          case rel => exact ⟨q + 1, fl', by omega, by go_num, hnew.out, hs⟩
          case measure => simp [intOf]; omega
        · obtain ⟨row, hrow⟩ : ∃ row, (s.V i)[K - 1]? = some row := ⟨_, List.getElem?_eq_getElem (by omega)⟩
          have hrl : row.length = 512 := Ok.out.row i row (List.mem_of_getElem? hrow)
          obtain ⟨u, cu, hru⟩ := hrd _ _ hrow
          have hnew := hid (show (lay row fl' i).length = 512 * s.n ∧ ∀ j, j < s.n → rowAt (lay row fl' i) j = s.cp n Z (q + 1) j from ⟨lay_len hF.1 hrl hin, fun j hj => by
            unfold lay
            rw [rowAt_lay hF.1 hrl hin hj, hcp j]
            by_cases hji : j = i
            · rw [if_pos hji, if_pos ⟨hji, hK0⟩, List.getD_eq_getElem?_getD, hrow]; rfl
            · rw [if_neg hji, if_neg (fun e => hji e.1)]; exact hF.2 j hj⟩)
          have hsrc := SrcOk.ofRdB (show RdB u row wr.drew from hru)
          rw [hrl] at hsrc
          have c2 := SatL.cell (SatL.pull hs 3 : SatL wr (cl db _ _ :: _)) (i := 0) (v := .slice (some ⟨b, off, none⟩) (512 * s.n) c0) rfl
          have hst := stays_eq (w := wr.drew) (db := db) hin hsn ⟨q1, q2⟩ c2
          have hP := sat_drew.2 hs
          have him : 512 * i + 512 ≤ 512 * s.n := by omega
          obtain ⟨k, rfl⟩ : ∃ k, K = k + 1 := ⟨K - 1, by omega⟩
          rw [Nat.add_sub_cancel] at cu hrow
          have S0 : wr.drew.cell? ⟨vb, vo + k, none⟩ = some u := cu
          clear hcp hF hrd hi hVne hrow hru hrl c2 hK0
          generalize (s.V i).length = vl at *
          generalize Z q = z at *
          obtain ⟨t, ht⟩ : ∃ t, t = Int.tmod z ((vl : Int) + 1) := ⟨_, rfl⟩
          rw [← ht] at e1 b1 b2
          have ht' := ht.symm
          clear ht
          have ew1 : IntKind.i64.wrap t = t := IntWalk.i64_in _ (by omega)
          have hN0 : ¬ ((vl : Int) + 1 = 0) := by omega
          have ew2 : IntKind.i64.wrap (k : Int) = k := IntWalk.i64_in _ (by omega)
          have hk0 : (0 : Int) < (k : Int) + 1 := by omega
          have hk1 : (k : Int) < (vl : Int) := by omega
          push_cast at e1
          clear Hz
          go_wp2
          refine GoE.start (fun w' => w'.cell? ⟨vb, vo + k, none⟩ = some u) 8 9 rfl (by kernel_rfl) ?_
          refine GoE.take (i := 0) (v := ?_) rfl (by decide) (by kernel_rfl) (by kernel_rfl) (by kernel_rfl) (by kernel_rfl) (fun _ _ _ h => h) (by rfl) ?_ (by assumption) ?_
          rotate_left
          · intro w hSw; (try dsimp only at hSw); go_simp; try (with_reducible rfl)
          try simp only [Act.put, List.setIfInBounds_toArray, List.set_cons_zero, List.set_cons_succ]
          refine GoE.take (i := 1) (v := ?_) rfl (by decide) (by kernel_rfl) (by kernel_rfl) (by kernel_rfl) (by kernel_rfl) (fun _ _ _ h => h) (by rfl) ?_ (by assumption) ?_
          rotate_left
          · intro w hSw; (try dsimp only at hSw); go_simp; try (with_reducible rfl)
          try simp only [Act.put, List.setIfInBounds_toArray, List.set_cons_zero, List.set_cons_succ]
          refine GoE.take (i := 3) (v := ?_) rfl (by decide) (by kernel_rfl) (by kernel_rfl) (by kernel_rfl) (by kernel_rfl) (fun _ _ _ h => h) (by rfl) ?_ (by assumption) ?_
          rotate_left
          · intro w hSw; (try dsimp only at hSw); go_simp; try (with_reducible rfl)
          try simp only [Act.put, List.setIfInBounds_toArray, List.set_cons_zero, List.set_cons_succ]
          refine GoE.take (i := 4) (v := ?_) rfl (by decide) (by kernel_rfl) (by kernel_rfl) (by kernel_rfl) (by kernel_rfl) (fun _ _ _ h => h) (by rfl) ?_ (by assumption) ?_
          rotate_left
          · intro w hSw; (try dsimp only at hSw); go_simp; try (with_reducible rfl)
          try simp only [Act.put, List.setIfInBounds_toArray, List.set_cons_zero, List.set_cons_succ]
          refine GoE.take (i := 5) (v := ?_) rfl (by decide) (by kernel_rfl) (by kernel_rfl) (by kernel_rfl) (by kernel_rfl) (fun _ _ _ h => h) (by rfl) ?_ (by assumption) ?_
          rotate_left
          · intro w hSw; (try dsimp only at hSw); go_simp; try (with_reducible rfl)
          try simp only [Act.put, List.setIfInBounds_toArray, List.set_cons_zero, List.set_cons_succ]
          refine GoE.take (i := 6) (v := ?_) rfl (by decide) (by kernel_rfl) (by kernel_rfl) (by kernel_rfl) (by kernel_rfl) (fun _ _ _ h => h) (by rfl) ?_ (by assumption) ?_
          rotate_left
          · intro w hSw; (try dsimp only at hSw); go_simp; try (with_reducible rfl)
          try simp only [Act.put, List.setIfInBounds_toArray, List.set_cons_zero, List.set_cons_succ]
          refine GoE.take (i := 7) (v := ?_) rfl (by decide) (by kernel_rfl) (by kernel_rfl) (by kernel_rfl) (by kernel_rfl) (fun _ _ _ h => h) (by rfl) ?_ (by assumption) ?_
          rotate_left
          · intro w hSw; (try dsimp only at hSw); go_simp; try (with_reducible rfl)
          try simp only [Act.put, List.setIfInBounds_toArray, List.set_cons_zero, List.set_cons_succ]
          refine GoE.one (i := 2) rfl (by kernel_rfl) (fun K hK => ?_)
          go_simp
          go_at_call 25
          (with_reducible refine hst.mono ?_)
          rintro e w' ⟨v, rfl, rfl, rfl⟩
          go_wp2_with fail
          refine hK.out _ _ (fun _ => S0) ?_
          clear hK K
          try simp only [Act.put, List.setIfInBounds_toArray, List.set_cons_zero, List.set_cons_succ]
          refine GoE.one (i := 8) rfl (by kernel_rfl) (fun K hK => ?_)
          refine step_copy_sl (c := c0 - 512 * i) rfl (.tmp 47) (.tmp 52) rfl elem_byte rfl hP rfl hsrc (bvs_one _) him (by omega) ?_
          intro w6 h6
          refine hK.out _ _ (fun h => absurd rfl h) ?_
          clear hK K
          try simp only [Act.put, List.setIfInBounds_toArray, List.set_cons_zero, List.set_cons_succ]
          refine GoE.done (by kernel_rfl) ?_
          rw [bvs_lay] at h6
          go_wp2
          go_roundw
          case rel => exact ⟨q + 1, _, by omega, by go_num, hnew.out, h6⟩
          case measure => simp [intOf]; omega
      · have hK0 : K = 0 := by rw [hK]; unfold pickN; rw [if_neg hqn]
        have hnew := hid (Hz.out hK0)
        clear hcp hF hrd hi hVne hK hK0
        go_wp2
        go_roundw
        case rel => exact ⟨q + 1, fl', by omega, by go_num, hnew.out, hs⟩
        case measure => simp [intOf]; omega
    · obtain rfl : q = s.dirtyN.length := by omega
      have hlk := hs
      obtain ⟨rs, hrs, hM⟩ := sat_MapF.1 (SatL.pull hs 2 : SatL wr (MapF RowsL m (vf s.V) :: _))
      obtain ⟨w5, hclr, h5⟩ := run_mapclear_sl (P := Try.prog) (ty := 0) (t := 57) (kt := 3) (e0 := 64) (by kernel_rfl) hM
      have hF2 := hid hF
      clear hF hrs hs hlk hM
      go_wp2
      go_ret
      have h6 := ((big_nil (f := fun r : Rf (List (List UInt8)) => RowsL r.v r.xs)).2 h5).swap
      have hmf := (sat_MapF (F := RowsL) (m := m) (f := fun _ => none)).2 ⟨[], rfl, h6⟩
      rw [← vf_nil] at hmf
      have hok : DOk (s.crash n Z) fl' := ⟨Ok.out.bd, hF2.out.1, fun i hi => hF2.out.2 i hi, fun _ _ => rfl, fun i r hr => absurd (show r ∈ ([] : List (List UInt8)) from hr) List.not_mem_nil⟩
      have h7 := sat_DskR.2 ⟨_, _, _, hok, hmf.bring [4, 2, 0]⟩
      exact Ret.mk ⟨rfl, SatL.tail (SatL.tail (h7.bring [1, 2, 0]))⟩
end
end Go.Proofs.Ytjjiljijcigekaa
