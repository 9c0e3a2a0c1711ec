/- data, has of chapter 7's statements. No condition beside the sizes that each names. -/
import Derived.Test.YtlmjjfgnpcghgaaSameI
import Derived.Test.YtlmjjfgnpcghgaaCacheG
import Derived.Deep.CutBlock
import Derived.Deep.CutRange
namespace Go.Proofs.Ytlmjjfgnpcghgaa
set_option linter.unusedVariables false
set_option linter.unusedSimpArgs false
open Go.RowKit
def dsz (s : Int) : Nat := if s = 0 then 512 else (if s < 0 then 0 else if 2000 < s then 2000 else s).toNat
theorem dsz_le (s : Int) : dsz s ≤ 2000 := by unfold dsz; split; omega; split; omega; split <;> omega
def dataL (b n : Nat) : List UInt8 := (List.range n).map fun i => byteOf (b + i)
theorem dataL_len (b n : Nat) : (dataL b n).length = n := by simp [dataL]
def datz (b j n : Nat) : List UInt8 := dataL b j ++ List.replicate (n - j) 0
theorem datz_len {b j n : Nat} (h : j ≤ n) : (datz b j n).length = n := by unfold datz; rw [List.length_append, dataL_len, List.length_replicate]; omega
theorem datz_step {b j n : Nat} (h : j < n) : (bvs (datz b j n)).set j (.int .u8 (((b + j) % 256 : Nat) : Int)) = bvs (datz b (j + 1) n) := by
  have e : (datz b j n).set j (byteOf (b + j)) = datz b (j + 1) n := by
    unfold datz
    obtain ⟨k, hk⟩ : ∃ k, n - j = k + 1 := ⟨n - j - 1, by omega⟩
    rw [List.set_append_right _ _ (by rw [dataL_len]; exact Nat.le_refl _), dataL_len, Nat.sub_self, hk, show n - (j + 1) = k by omega, List.replicate_succ, List.set_cons_zero]
    unfold dataL
    rw [List.range_succ, List.map_append, List.append_assoc]
    rfl
  rw [← e]
  unfold bvs
  rw [List.map_set]
  congr 1
  exact (bv_byteOf _).symm
section
variable {w : World} {L : List HP}
set_option maxRecDepth 100000 in
set_option maxHeartbeats 1000000 in
theorem has_ok {a : Option Addr} {c : Nat} {l : List Int} {n : Int} (h : SatL w L) (ga : Gives L (ZRow a l)) :
    Calls Try.prog 25 #[.slice a l.length c, .int .i64 n] w (Ret fun r w' => r = .bool (decide (n ∈ l)) ∧ SatL w' L) := by
  have hnz : l.length ≤ 9223372036854775807 := (ga w h).1
  obtain ⟨res, hres⟩ : ∃ res, res = decide (n ∈ l) := ⟨_, rfl⟩
  rw [← hres]
  have Hres := hid hres
  have Ga := hid ga
  clear ga hres
  go_enter Try.func25, Try.ntmps25
  go_wp2
  go_loopw [5] (fun i wr => ∃ j : Nat, j ≤ l.length ∧ i = .int .i64 j ∧ ¬ n ∈ l.take j ∧ SatL wr L) (fun i _ => l.length - (intOf i).toNat)
  case atStart => exact ⟨0, by omega, rfl, by simp, h⟩
  case round =>
    clear h
    obtain ⟨j, hj, rfl, hno, hs⟩ := hrel
    by_cases hlt : j < l.length
    · have hjz : (j : Int) < (l.length : Int) := by omega
      obtain ⟨pa, oa, rfl, xa⟩ := (Ga.out wr hs).2 (by omega)
      have hx : l[j]? = some l[j] := List.getElem?_eq_getElem hlt
      have ca := xa j _ hx
      have hmem : l[j] ∈ l := List.mem_of_getElem? hx
      have Hno := hid (fun h : ¬ l[j] = n => show ¬ n ∈ l.take (j + 1) by
        rw [List.take_add_one, hx]
        intro hm
        rcases List.mem_append.1 hm with hm | hm
        · exact hno hm
        · simp at hm; exact h hm.symm)
      have Hs := hid hs
      clear xa hx hs hno
      generalize l[j] = z at *
      by_cases hz : z = n
      · subst hz
        have hr : res = true := by rw [Hres.out]; exact decide_eq_true hmem
        have Hr := hid hr
        clear hmem hr
        go_wp2
        go_ret
        exact Ret.mk ⟨by rw [Hr.out]; rfl, Hs.out⟩
      · have hz2 : (z == n) = false := by simpa using hz
        have H2 := hid (Hno.out hz)
        clear hmem
        go_wp2
        go_roundw
        case rel => exact ⟨j + 1, by omega, by go_num, H2.out, Hs.out⟩
        case measure => simp [intOf]; omega
    · obtain rfl : j = l.length := by omega
      rw [List.take_length] at hno
      have hr : res = false := by rw [Hres.out]; exact decide_eq_false hno
      have Hr := hid hr
      have Hs := hid hs
      clear hno hr hs
      go_wp2
      go_ret
      exact Ret.mk ⟨by rw [Hr.out]; rfl, Hs.out⟩
set_option maxRecDepth 100000 in
set_option maxHeartbeats 1000000 in
theorem data_ok {kd N s : Int} {b : Nat} (hb : b < 256) (h : SatL w L) :
    Calls Try.prog 24 #[.agg #[.int .i64 kd, .int .i64 N, .int .i64 s, .int .u8 (b : Int)]] w (Ret fun r w' => SatL w' (SlB 5 r (dataL b (dsz s)) :: L)) := by
  obtain ⟨z, hz⟩ : ∃ z, z = dsz s := ⟨_, rfl⟩
  have hzl : z ≤ 2000 := by rw [hz]; exact dsz_le s
  have h1 := h.alloc (.cells #[.int .i64 kd, .int .i64 N, .int .i64 s, .int .u8 (b : Int)] 44)
  have hc := hid (fun (w' : World) (X : List HP) (h : SatL w' (cl w.heap.size 44 #[.int .i64 kd, .int .i64 N, .int .i64 s, .int .u8 (b : Int)] :: X)) => h.cell (i := 3) (v := .int .u8 (b : Int)) rfl)
  have c2 := SatL.cell (h1 : SatL _ (cl _ _ _ :: _)) (i := 2) (v := .int .i64 s) rfl
  have hz0 := hid (show List.replicate z (.int .u8 0) = bvs (datz b 0 z) by unfold datz dataL; rw [List.range_zero, List.map_nil, List.nil_append, Nat.sub_zero]; exact (bvs_zeros z).symm)
  have hst := hid (fun j (h : j < z) => datz_step (b := b) h)
  have hpl := hid (fun j (h : j ≤ z) => datz_len (b := b) h)
  have hfin := hid (show datz b z z = dataL b z by unfold datz; rw [Nat.sub_self]; simp)
  obtain ⟨s1, hs1⟩ : ∃ s1 : Int, s1 = if s < 0 then 0 else s := ⟨_, rfl⟩
  have hZ2 : ¬ s = 0 → (z : Int) = if 2000 < s1 then 2000 else s1 := by
    intro h0
    rw [hz, hs1]; unfold dsz
    rw [if_neg h0]
    by_cases h1 : s < 0
    · rw [if_pos h1, if_pos h1, if_neg (by omega)]; rfl
    · rw [if_neg h1, if_neg h1]
      by_cases h2 : 2000 < s
      · rw [if_pos h2]; rfl
      · rw [if_neg h2]; omega
  have hmx : ∀ w : World, (Builtin.max_ #[3, 3] 3 #[.int .i64 s, .int .i64 0]).run Try.prog w = .ok (.int .i64 s1) w := fun w => by
    rw [hs1]; rfl
  have hmn : ¬ s = 0 → ∀ w : World, (Builtin.min_ #[3, 3] 3 #[.int .i64 s1, .int .i64 2000]).run Try.prog w = .ok (.int .i64 (z : Int)) w := fun h0 w => by
    rw [hZ2 h0]; rfl
  have hz1 : s = 0 → z = 512 := fun h => by rw [hz]; unfold dsz; rw [if_pos h]
  rw [← hz]
  have Hz := hid (And.intro hz1 hmn)
  clear hs1 hz hZ2 hz1 hmn h
  have hzz : (z : Int) ≤ 2000 := by omega
  have hbz : (b : Int) < 256 := by omega
  go_enter Try.func24, Try.ntmps24
  go_upto_if 8 with fail
  go_cut [3] from 6 to 12 (fun v wx => v = .int .i64 (z : Int) ∧ SatL wx (cl w.heap.size 44 #[.int .i64 kd, .int .i64 N, .int .i64 s, .int .u8 (b : Int)] :: L))
  case first =>
    by_cases h0 : s = 0
    · have e := Hz.out.1 h0
      have hq : (s == 0) = true := by simpa using h0
      subst e
      clear h0
      go_wp2_with fail
      go_meet
      exact ⟨rfl, h1⟩
    · have e := Hz.out.2 h0
      have hq : (s == 0) = false := by simpa using h0
      clear h0
      go_wp2_with fail
      go_meet
      exact ⟨rfl, h1⟩
  case rest =>
  obtain ⟨rfl, hs⟩ := hcut
  clear h1 c2 hmx Hz
  go_wp2_with (refine wpList_make_sl rfl (.tmp 13) (.tmp 13) rfl elem_byte z rfl rfl hs (by omega) (by omega) ?_; intro w2 h2; rw [hz0.out] at h2)
  clear hs
  go_loopw [5] (fun i wr => ∃ j : Nat, j ≤ z ∧ i = .int .i64 j ∧ SatL wr (SlB 5 (.slice (some ⟨wc.heap.size, 0, none⟩) z z) (datz b j z) :: cl w.heap.size 44 #[.int .i64 kd, .int .i64 N, .int .i64 s, .int .u8 (b : Int)] :: L)) (fun i _ => z - (intOf i).toNat)
  case atStart => exact ⟨0, by omega, rfl, h2⟩
  case round =>
    clear h2
    obtain ⟨j, hj, rfl, hs⟩ := hrel
    by_cases hlt : j < z
    · have hjz : (j : Int) < z := by omega
      have c3 := hc.out _ _ (hs.pull 1)
      have hin : j < (bvs (datz b j z)).length := by rw [bvs_len, hpl.out j hj]; exact hlt
      have hA := Sl.set (hs : SatL wr (Sl _ _ _ :: _)) (i := j) hin (.int .u8 (((b + j) % 256 : Nat) : Int))
      rw [Nat.zero_add, hst.out j hlt] at hA
      have fA := Sl.free (hs : SatL wr (Sl _ _ _ :: _)) (0 + j)
      obtain ⟨u, cu⟩ : ∃ u, wr.cell? ⟨wc.heap.size, 0 + j, none⟩ = some u := ⟨_, Sl.cell (hs : SatL wr (Sl _ _ _ :: _)) (List.getElem?_eq_getElem hin)⟩
      rw [Nat.zero_add] at cu fA
      have H1 := hid hA
      have e8 : IntKind.u8.wrap ((b : Int) + (j : Int) % 256) = (((b + j) % 256 : Nat) : Int) := by show ((b : Int) + (j : Int) % 256) % 256 = _; omega
      clear hs hA hin
      go_wp2
      go_roundw
      case rel => exact ⟨j + 1, by omega, by go_num, H1.out⟩
      case measure => simp [intOf]; omega
    · obtain rfl : j = z := by omega
      have Hs := hid hs
      clear hs
      go_wp2
      go_ret
      refine Ret.mk ?_
      rw [← hfin.out]; exact SatL.tail (SatL.swap Hs.out)
end
end Go.Proofs.Ytlmjjfgnpcghgaa
