/- The blocks that chapter 8's statements lay: put, puts, samePuts, log. No condition beside the sizes that each names. -/
import Derived.Test.YtjjnadlklfegcaaWalRef
import Derived.Test.YtjjnadlklfegcaaArg
import Derived.Deep.QuietTactic
import Derived.BigQuiet
import Derived.Deep.Cut
import Derived.Deep.CutRange
namespace Go.Proofs.Ytjjnadlklfegcaa
set_option linter.unusedVariables false
set_option linter.unusedSimpArgs false
open Go.RowKit

def putN (s : Int) : Nat := if s = 0 then 512 else (min (max s 0) 1500).toNat
theorem putN_le (s : Int) : putN s ≤ 1500 := by unfold putN; split <;> omega
def putB (n b : Nat) : List UInt8 := (List.range n).map fun i => byteOf (b + i / 3)
theorem putB_len (n b : Nat) : (putB n b).length = n := by simp [putB]
def putTo (n b j : Nat) : List UInt8 := (List.range n).map fun i => if i < j then byteOf (b + i / 3) else 0
theorem putTo_len (n b j : Nat) : (putTo n b j).length = n := by simp [putTo]
theorem putTo_zero (n b : Nat) : bvs (putTo n b 0) = List.replicate n (.int .u8 0) := by
  apply List.ext_getElem?
  intro i
  by_cases hi : i < n
  · simp [putTo, hi]
  · rw [List.getElem?_eq_none (by rw [bvs_len, putTo_len]; omega), List.getElem?_eq_none (by simp; omega)]
theorem putTo_full (n b : Nat) : putTo n b n = putB n b := by
  unfold putTo putB
  apply List.map_congr_left
  intro i hi
  rw [if_pos (List.mem_range.1 hi)]
theorem putTo_set {n b j : Nat} (hj : j < n) : (bvs (putTo n b j)).set j (bv (byteOf (b + j / 3))) = bvs (putTo n b (j + 1)) := by
  rw [← List.map_set]
  congr 1
  apply List.ext_getElem?
  intro i
  rw [List.getElem?_set]
  by_cases hi : i < n
  · by_cases hij : j = i
    · subst hij
      rw [if_pos rfl, if_pos (by rw [putTo_len]; exact hj)]
      simp [putTo, hi]
    · rw [if_neg hij]
      simp only [putTo, List.getElem?_map, List.getElem?_range hi, Option.map_some]
      by_cases h1 : i < j
      · rw [if_pos h1, if_pos (by omega)]
      · rw [if_neg h1, if_neg (by omega)]
  · rw [List.getElem?_eq_none (by rw [putTo_len]; omega), List.getElem?_eq_none (by rw [putTo_len]; omega), if_neg (by omega)]
theorem results_c {fn : Func} {a T : Nat} (hr : fn.results = #[.cell a T]) (P : Program) (tmps : Array Value) (w : World) {b : Nat} {vb : Value} (ha : tmps.getD a undef = .pointer (some ⟨b, 0, none⟩))
    (hl : (loadVar T ⟨b, 0, none⟩).run P w = .ok vb w) : (results fn tmps).run P w = .ok vb w := by
  have ha2 : tmps[a]?.getD undef = .pointer (some ⟨b, 0, none⟩) := by simpa using ha
  unfold results
  rw [hr]
  simp [ha2, asAddr, hl]

section
variable {w : World} {L : List HP}
set_option maxHeartbeats 1000000 in
theorem put_ok {at_ sz : Int} {b : Nat} (hb : b < 256) (h : SatL w L) :
    Calls Try.prog 24 #[.agg #[.int .i64 at_, .int .i64 sz, .int .u8 b]] w (Ret fun r w' => ∃ a c, r = .agg #[.int .i64 at_, .slice a (putN sz) c] ∧ putN sz ≤ c ∧ c ≤ 9223372036854775807 ∧ SatL w' (SlB 5 (.slice a (putN sz) c) (putB (putN sz) b) :: L)) := by
  have k1 := h.alloc (.cells #[.int .i64 at_, .int .i64 sz, .int .u8 b] 59)
  have k2 := k1.allocN (n := w.heap.size + 1) (.cells #[.int .i64 0, .slice none 0 0] 29) (by simp)
  have hn5 := putN_le sz
  have hn : (sz = 0 ∧ putN sz = 512) ∨ (¬ sz = 0 ∧ (putN sz : Int) = min (max sz 0) 1500) := by
    unfold putN
    by_cases h0 : sz = 0
    · exact .inl ⟨h0, if_pos h0⟩
    · exact .inr ⟨h0, by rw [if_neg h0]; omega⟩
  generalize putN sz = n at *
  have hld := fun (w' : World) (L' : List HP) (b : Nat) (x y : Value) (h : SatL w' (cl b 29 #[x, y] :: L')) => run_loadPut h
  go_enter Try.func24, Try.ntmps24
  go_upto_if 8 with fail
  go_cut [3] from 6 to 12 (fun v3 wr => v3 = .int .i64 n ∧ wr = (w.alloc (.cells #[.int .i64 at_, .int .i64 sz, .int .u8 b] 59)).alloc (.cells #[.int .i64 0, .slice none 0 0] 29))
  case first =>
    rcases hn with ⟨rfl, rfl⟩ | ⟨hs0, hn⟩
    · go_wp2_with fail
      go_meet
      case rel => exact ⟨rfl, rfl⟩
    · have hs1 : (sz != 0) = true := by simp [hs0]
      go_wp2_with fail
      all_goals
        go_meet
        exact ⟨congrArg (Value.int .i64) (by omega), rfl⟩
  case rest =>
    obtain ⟨rfl, rfl⟩ := hcut
    clear hn
    go_wp2_with (refine wpList_make_sl rfl (.tmp 13) (.tmp 13) rfl elem_byte n rfl rfl k2 (by omega) (by omega) ?_; intro w5 hs5)
    rw [← putTo_zero n b] at hs5
    have hnb : ((w.alloc (.cells #[.int .i64 at_, .int .i64 sz, .int .u8 b] 59)).alloc (.cells #[.int .i64 0, .slice none 0 0] 29)).heap.size = w.heap.size + 2 := by simp
    simp only [hnb] at hs5
    generalize w.heap.size + 2 = nb at *
    generalize w.heap.size = bb at *
    have hs6 : SatL w5 (SlB 5 (.slice (some ⟨nb, 0, none⟩) n n) (putTo n b 0) :: cl bb 59 #[.int .i64 at_, .int .i64 sz, .int .u8 b] :: cl (bb + 1) 29 #[.int .i64 0, .slice none 0 0] :: L) := hs5.bring [0, 2, 1]
    clear hs5 hnb k1 k2 h
    go_loopw [5] (fun i wr => ∃ j : Nat, j ≤ n ∧ i = .int .i64 j ∧ SatL wr (SlB 5 (.slice (some ⟨nb, 0, none⟩) n n) (putTo n b j) :: cl bb 59 #[.int .i64 at_, .int .i64 sz, .int .u8 b] :: cl (bb + 1) 29 #[.int .i64 0, .slice none 0 0] :: L)) (fun i _ => n - (intOf i).toNat)
    case atStart => exact ⟨0, by omega, rfl, hs6⟩
    case round =>
      clear hs6
      obtain ⟨j, hj, rfl, hs⟩ := hrel
      by_cases hlt : j < n
      · have c2 := SatL.cell (v := .int .u8 b) (hs.pull 1 : SatL _ (cl bb _ _ :: _)) (i := 2) rfl
        have cj := SlB.cell hs (i := j) (by rw [putTo_len]; exact hlt)
        rw [Nat.zero_add] at cj
        have fj := Sl.free hs j
        have hset := fun (x : Value) => Sl.set hs (i := j) (by rw [bvs_len, putTo_len]; exact hlt) x
        simp only [Nat.zero_add] at hset
        have hst := putTo_set (b := b) hlt
        have e1 : IntKind.u8.wrap ((j : Int) / 3) = ((j / 3 % 256 : Nat) : Int) := by rw [IntKind.wrap_u8']; omega
        have hz : (byteOf (b + j / 3)).toNat = (b + j / 3) % 256 := byteOf_nat _
        have hbv : bv (byteOf (b + j / 3)) = .int .u8 (((b + j / 3) % 256 : Nat) : Int) := by rw [bv, hz]
        have e2 : IntKind.u8.wrap ((b : Int) + ((j / 3 % 256 : Nat) : Int)) = (((b + j / 3) % 256 : Nat) : Int) := by rw [IntKind.wrap_u8']; omega
        rw [hbv] at hst
        generalize j / 3 % 256 = y at *
        generalize (b + j / 3) % 256 = z at *
        generalize ((putTo n b j).getD j 0).toNat = x0 at *
        have Hset := hid hset
        have Hst := hid hst
        clear hst hset hz hbv
        go_wp2
        have h8 := Hset.out (.int .u8 z)
        rw [Hst.out] at h8
        go_roundw
        case rel => exact ⟨j + 1, by omega, by go_num, h8⟩
        case measure => simp [intOf]; omega
      · obtain rfl : j = n := by omega
        rw [putTo_full] at hs
        have k3 : SatL wr (cl (bb + 1) _ _ :: _) := hs.pull 2
        have c0 := SatL.cell (v := .int .i64 at_) (hs.pull 1 : SatL _ (cl bb _ _ :: _)) (i := 0) rfl
        have z0 := SatL.cell (v := .int .i64 0) k3 (i := 0) rfl
        have z1 := SatL.cell (v := .slice none 0 0) k3 (i := 1) rfl
        have f0 := SatL.free k3 0
        have f1 := SatL.free k3 1
        go_wp2
        have k4 : SatL ((wr.setCell ⟨bb + 1, 0, none⟩ (.int .i64 at_)).setCell ⟨bb + 1, 1, none⟩ (.slice (some ⟨nb, 0, none⟩) j j)) (cl (bb + 1) 29 #[.int .i64 at_, .slice (some ⟨nb, 0, none⟩) j j] :: SlB 5 (.slice (some ⟨nb, 0, none⟩) j j) (putB j b) :: cl bb 59 #[.int .i64 at_, .int .i64 sz, .int .u8 b] :: L) := SatL.set (SatL.set k3 (i := 0) (.int .i64 at_)) (i := 1) (.slice (some ⟨nb, 0, none⟩) j j)
        refine bodyPost_ret (results_c rfl _ _ _ rfl (hld _ _ _ _ _ k4)) rfl (Ret.mk ⟨_, _, rfl, Nat.le_refl _, by omega, SatL.tail (SatL.tail (k4.bring [0, 2, 1]))⟩)

/-- blocks that came in -/
def putD (at_ sz : Int) (b : Nat) : PD := (at_, putB (putN sz) b)
def putL (n : Nat) (A S : Nat → Int) (B : Nat → Nat) : List PD := (List.range n).map fun i => putD (A i) (S i) (B i)
theorem putL_len (n : Nat) (A S : Nat → Int) (B : Nat → Nat) : (putL n A S B).length = n := by simp [putL]
theorem putL_succ (n : Nat) (A S : Nat → Int) (B : Nat → Nat) : putL (n + 1) A S B = putL n A S B ++ [putD (A n) (S n) (B n)] := by simp [putL, List.range_succ]
abbrev BlkRow (a : Option Addr) (n : Nat) (A S : Nat → Int) (B : Nat → Nat) (w : World) : Prop := IsRow w 3 a n (fun i => [.int .i64 (A i), .int .i64 (S i), .int .u8 (B i : Int)])

set_option maxHeartbeats 1000000 in
theorem puts_ok {a : Option Addr} {n c : Nat} {A S : Nat → Int} {B : Nat → Nat} (hB : ∀ i, B i < 256) (hn : n ≤ 1000000) (h : SatL w L) (g : Gives L (BlkRow a n A S B)) :
    Calls Try.prog 12 #[.slice a n c] w (Ret fun r w' => SatL w' (PutsL r (putL n A S B) :: L)) := by
  go_enter Try.func12, Try.ntmps12
  go_wp2
  have h0 : SatL w (PutsR (.slice none 0 0) [] :: L) := sat_PutsR.2 (SlK_nil ((big_nil (f := fun p : Pt => SlB 5 p.v p.d)).2 h))
  go_loopw [3, 4] (fun ov i wr => ∃ (j : Nat) (qs : List Pt), j ≤ n ∧ i = .int .i64 j ∧ pds qs = putL j A S B ∧ SatL wr (PutsR ov qs :: L)) (fun _ i _ => n - (intOf i).toNat)
  case atStart => exact ⟨0, [], by omega, rfl, rfl, h0⟩
  case round =>
    clear h0 h
    obtain ⟨j, qs, hj, rfl, hq, hs⟩ := hrel
    by_cases hlt : j < n
    · obtain ⟨b, off, rfl, hc⟩ := (g wr hs.tail).2 (by omega)
      have d0 := (hc j hlt).2 0 _ rfl
      have d1 := (hc j hlt).2 1 _ rfl
      have d2 := (hc j hlt).2 2 _ rfl
      rw [Nat.add_zero] at d0
      have hql : qs.length = j := by rw [← pds_len, hq, putL_len]
      have hpu := put_ok (at_ := A j) (sz := S j) (hB j) (sat_PutsR.1 hs)
      have hsn := hid (putL_succ j A S B)
      have Hd := hid (show putD (A j) (S j) (B j) = (A j, putB (putN (S j)) (B j)) from rfl)
      have Hpl := hid (putB_len (putN (S j)) (B j))
      generalize putN (S j) = pn at *
      generalize A j = aj at *
      generalize S j = sj at *
      generalize B j = bj at *
      have b2 : (qs.length + 1) * 32 ≤ 140737488355328 := by omega
      have b9 : 0 < 32 := by omega
      have Hq := hid hq
      have Hql := hid hql
      clear hc hq hql
      go_wp2_with (first
        | (go_at_call 24; (with_reducible refine hpu.mono ?_); rintro e w3 ⟨v, rfl, pa, pc, rfl, q1, q2, h3⟩; have h4 := SatL.pull h3 1)
        | (at_builtin; refine wpList_pushK_sl rfl rfl (.tmp 11) (.tmp 17) rfl elem_put b9 rfl h4 rfl rfl (by simp [Value.oneCell']) b2 ?_; intro v9 w9 h10))
      go_roundw
      case rel =>
        have h14 := PutsL.snoc (ps := qs) (b := aj) (d := putB pn bj) (h10.bring [0, 2, 1])
        exact ⟨j + 1, qs ++ [(⟨aj, .slice pa pn pc, putB pn bj⟩ : Pt)], by omega, by go_num, by rw [hsn.out, pds_snoc, Hq.out, Hd.out], h14⟩
      case measure => simp [intOf]; omega
    · obtain rfl : j = n := by omega
      go_wp2
      go_ret
      exact Ret.mk (sat_PutsL.2 ⟨qs, hq, hs⟩)
end
end Go.Proofs.Ytjjnadlklfegcaa
