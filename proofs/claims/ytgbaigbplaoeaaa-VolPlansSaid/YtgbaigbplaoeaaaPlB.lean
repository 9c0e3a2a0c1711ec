/- vol: bits, and what Mkfs asks by it. No condition beside the sizes. -/
import Derived.Test.YtgbaigbplaoeaaaPlA
namespace Go.Proofs.Ytgbaigbplaoeaaa
set_option linter.unusedVariables false
set_option linter.unusedSimpArgs false
open Go.RowKit
/-- a function that is called by its number -/
def CallNo (P : Program) (f : Nat) : Prop := ∀ args w, (callFunc f args).run P w = .ok (.enter f args) w
theorem cno1 : CallNo Try.prog 49 := fun _ _ => by kernel_rfl
theorem cno2 : CallNo Try.prog 50 := fun _ _ => by kernel_rfl
section
variable {w : World} {L : List HP}
theorem clo1_ok {c4 i j : Nat} (h : w.cell? ⟨c4, 0, none⟩ = some (.int .i64 (i : Int))) :
    Calls Try.prog 49 #[.int .i64 (j : Int), .pointer (some ⟨c4, 0, none⟩)] w fun e w' => e = .returned (.bool (imP i j)) ∧ w = w' := by
  by_cases h1 : j < 2
  · have t1 : (j : Int) ≤ 1 := by omega
    have hp := hid (show imP i j = true by unfold imP; simp [h1])
    clear h1
    go_enter Try.func49, Try.ntmps49
    go_wp2
    go_ret
    exact ⟨by rw [hp.out]; rfl, rfl⟩
  · have t1 : ¬ (j : Int) ≤ 1 := by omega
    by_cases h2 : i ≤ j
    · have t2 : (i : Int) ≤ j := by omega
      have hp := hid (show imP i j = true by unfold imP; simp [h2])
      clear h1
      go_enter Try.func49, Try.ntmps49
      go_wp2
      go_ret
      exact ⟨by rw [hp.out]; rfl, rfl⟩
    · have t2 : ¬ (i : Int) ≤ j := by omega
      have hp := hid (show imP i j = false by unfold imP; simp [h1, h2])
      clear h1
      go_enter Try.func49, Try.ntmps49
      go_wp2
      go_ret
      exact ⟨by rw [hp.out]; rfl, rfl⟩
def bmA (b dt : Nat) : Nat → Bool := fun j => decide (j ≤ dt) || decide (b ≤ j)
theorem clo2_ok {c8 c3 b dt j : Nat} (h : w.cell? ⟨c8, 7, none⟩ = some (.int .i64 (dt : Int))) (h3 : w.cell? ⟨c3, 0, none⟩ = some (.int .i64 (b : Int))) :
    Calls Try.prog 50 #[.int .i64 (j : Int), .pointer (some ⟨c8, 0, none⟩), .pointer (some ⟨c3, 0, none⟩)] w fun e w' => e = .returned (.bool (bmA b dt j)) ∧ w = w' := by
  by_cases h1 : j ≤ dt
  · have t1 : (j : Int) ≤ dt := by omega
    have hp := hid (show bmA b dt j = true by unfold bmA; simp [h1])
    go_enter Try.func50, Try.ntmps50
    go_wp2
    go_ret
    exact ⟨by rw [hp.out]; rfl, rfl⟩
  · have t1 : ¬ (j : Int) ≤ dt := by omega
    by_cases h2 : b ≤ j
    · have t2 : (b : Int) ≤ j := by omega
      have hp := hid (show bmA b dt j = true by unfold bmA; simp [h2])
      go_enter Try.func50, Try.ntmps50
      go_wp2
      go_ret
      exact ⟨by rw [hp.out]; rfl, rfl⟩
    · have t2 : ¬ (b : Int) ≤ j := by omega
      have hp := hid (show bmA b dt j = false by unfold bmA; simp [h1, h2])
      go_enter Try.func50, Try.ntmps50
      go_wp2
      go_ret
      exact ⟨by rw [hp.out]; rfl, rfl⟩
/-- the blocks of bits that P says -/
def bitRows (n : Nat) (P : Nat → Bool) : List (List UInt8) := (List.range n).map fun q => bitsN 512 (fun j => P (q * 4096 + j))
theorem bitRows_succ (n : Nat) (P : Nat → Bool) : bitRows (n + 1) P = bitRows n P ++ [bitsN 512 (fun j => P (n * 4096 + j))] := by simp [bitRows, List.range_succ]
theorem bitRows_len (n : Nat) (P : Nat → Bool) : (bitRows n P).length = n := by simp [bitRows]
set_option maxRecDepth 100000 in
set_option maxHeartbeats 4000000 in
theorem bits_ok {n f : Nat} {cs : Array Value} {P : Nat → Bool} (hn : n ≤ 1000) (hcf : CallNo Try.prog f) (hf : ∀ j, j < n * 4096 → Gives L (fun w' => Calls Try.prog f (#[.int .i64 (j : Int)] ++ cs) w' fun e w'' => e = .returned (.bool (P j)) ∧ w' = w'')) (h : SatL w L) :
    Calls Try.prog 48 #[.int .i64 (n : Int), .func (.func f) #[] cs] w (Ret fun v w' => SatL w' (RowsM v (bitRows n P) :: L)) := by
  unfold CallNo at hcf
  have Hf := hid hf
  clear hf
  go_enter Try.func48, Try.ntmps48
  go_wp2
  go_loopw [5, 10] (fun o i wr => ∃ k : Nat, k ≤ n ∧ i = .int .i64 (k : Int) ∧ SatL wr (RowsM o (bitRows k P) :: L)) (fun _ i _ => n - (intOf i).toNat)
  case atStart => exact ⟨0, by omega, rfl, RowsM_nil h⟩
  case round =>
    clear h
    obtain ⟨k, hk, rfl, hs⟩ := hrel
    by_cases hlt : k < n
    · have hkz : (k : Int) < n := by omega
      obtain ⟨rs, hrs, h1⟩ := sat_RowsM.1 hs
      have h2 := sat_RowsS.1 h1
      have hrl : rs.length = k := by rw [← bitRows_len k P, ← hrs, List.length_map]
      obtain ⟨oa, oc, rfl, _, _⟩ := Sl.valn h2 (m := k) (by rw [List.length_map]; exact hrl)
      obtain ⟨Pk, hPk⟩ : ∃ Pk : Nat → Bool, Pk = fun j => P (k * 4096 + j) := ⟨_, rfl⟩
      have Hrs := hid hrs
      have Hrl := hid hrl
      have HPk := hid hPk
      obtain ⟨nb, hnb⟩ : ∃ nb, nb = wr.heap.size := ⟨_, rfl⟩
      have Hnb := hid hnb
      clear hs h1 hrs hrl hPk hnb
      go_upto_region 6 with (refine wpList_make_sl rfl (.const (.int .i64 512)) (.const (.int .i64 512)) rfl elem_byte 512 rfl rfl h2 (by omega) (by omega) ?_; intro w3 hs3)
      rw [← Hnb.out] at hs3 ⊢
      have hs5 : SatL w3 (SlB 5 (.slice (some ⟨nb, 0, none⟩) 512 512) (bitsN 512 (upto Pk 0)) :: Sl 23 (.slice oa k oc) (rs.map (·.v)) :: big (fun r : RwS => SlB 5 r.v r.d) rs :: L) := by
        rw [upto_none]
        unfold SlB
        rw [bvs_zeros]
        exact hs3
      clear hs3 h2
      go_wp2_with fail
      go_loopw [14] (fun ii wr => ∃ j : Nat, j ≤ 4096 ∧ ii = .int .i64 (j : Int) ∧ SatL wr (SlB 5 (.slice (some ⟨nb, 0, none⟩) 512 512) (bitsN 512 (upto Pk j)) :: Sl 23 (.slice oa k oc) (rs.map (·.v)) :: big (fun r : RwS => SlB 5 r.v r.d) rs :: L)) (fun ii _ => 4096 - (intOf ii).toNat)
      case atStart => exact ⟨0, by omega, rfl, hs5⟩
      case round =>
        clear hs5
        obtain ⟨j, hj, rfl, hs6⟩ := hrel
        by_cases hlt2 : j < 4096
        · have hjz : (j : Int) < 4096 := by omega
          obtain ⟨q, hq⟩ : ∃ q, q = k * 4096 + j := ⟨_, rfl⟩
          have hqz : (k : Int) * 4096 + (j : Int) = (q : Int) := by omega
          have hqw : IntKind.i64.wrap (q : Int) = (q : Int) := IntWalk.i64_in _ (by omega)
          have hkw : IntKind.i64.wrap ((k : Int) * 4096) = (k : Int) * 4096 := IntWalk.i64_in _ (by omega)
          have kc := Hf.out q (by omega) _ hs6.tail.tail.tail
          have hPq : P q = Pk j := by rw [HPk.out, hq]
          have Hq := hid hq
          clear hq
          cases hp : Pk j with
          | false =>
            rw [hPq, hp] at kc
            have Hu := hid (upto_no (n := 512) (P := Pk) (k := j) hp)
            have H6 := hid hs6
            clear hs6 hPq hp
            go_wp2_with (refine kc.mono ?_; rintro e w7 ⟨rfl, rfl⟩)
            go_roundw
            case rel => exact ⟨j + 1, by omega, by go_num, by rw [← Hu.out]; exact H6.out⟩
            case measure => simp [intOf]; omega
          | true =>
            rw [hPq, hp] at kc
            have Hu := hid (upto_yes (n := 512) (P := Pk) (k := j) hp)
            have hq8 : j / 8 < 512 := by omega
            have hc := SlB.cell hs6 (i := j / 8) (by rw [bitsN_len]; exact hq8)
            rw [bitsN_getD (upto Pk j) hq8, Nat.zero_add] at hc
            have hfr := Sl.free hs6 (j / 8)
            have Hs := hid (bitsN_set (n := 512) (upto Pk j) (i := j) (by omega))
            have Hset := hid (fun (x : Value) => Sl.set hs6 (i := j / 8) (by rw [bvs_len, bitsN_len]; exact hq8) x)
            have hx := bsum_lt 8 (fun t => upto Pk j (8 * (j / 8) + t))
            rw [← bitByte_nat] at hx
            have e1 : (j : Int) / 8 = ((j / 8 : Nat) : Int) := rfl
            have e2 : (j : Int) % 8 = ((j % 8 : Nat) : Int) := rfl
            have e3 : j % 8 < 8 := Nat.mod_lt _ (by omega)
            have e4 : ((j / 8 : Nat) : Int) < 512 := by omega
            have e5 : j / 8 < 512 := hq8
            generalize (bitByte (upto Pk j) (j / 8)).toNat = x at *
            generalize hqq : j / 8 = q8 at *
            generalize hss : j % 8 = s8 at *
            have Hqq := hid hqq
            have Hss := hid hss
            clear hs6 hPq hp hqq hss hq8
            go_wp2_with (refine kc.mono ?_; rintro e w7 ⟨rfl, rfl⟩)
            go_region
            go_wp2
            go_roundw
            case rel =>
              refine ⟨j + 1, by omega, by go_num, ?_⟩
              have h7 := sat_drew.2 (Hset.out (.int .u8 (bits .or .u8 (x : Int) ((2 : Int) ^ s8 % 256))))
              rw [or_bit x s8 hx e3, Nat.zero_add] at h7
              rw [or_bit x s8 hx e3, ← Hu.out, ← Hs.out]
              show SatL _ (Sl _ _ (((bitsN 512 (upto Pk j)).set q8 (UInt8.ofNat (x ||| 2 ^ s8))).map bv) :: _)
              rw [List.map_set]
              exact h7
            case measure => simp [intOf]; omega
        · have hj4 : j = 4096 := by omega
          subst hj4
          rw [upto_all (n := 512) (by omega)] at hs6
          have h7 : SatL wr (Sl 23 (.slice oa k oc) (rs.map (·.v)) :: SlB 5 (.slice (some ⟨nb, 0, none⟩) 512 512) (bitsN 512 Pk) :: big (fun r : RwS => SlB 5 r.v r.d) rs :: L) := hs6.swap
          have hbq : ((rs.map (·.v)).length + 1) * 24 ≤ 140737488355328 := by rw [List.length_map, Hrl.out]; omega
          have h24 : 0 < 24 := by omega
          clear hs6
          go_wp2_with (at_builtin; refine wpList_push_sl rfl (.tmp 34) (.tmp 36) rfl elem_rows h24 rfl h7 rfl rfl hbq ?_; intro v8 w8 h8)
          have h9 := rowsS_push (h8.bring [0, 2, 1])
          rw [Hrs.out, HPk.out, ← bitRows_succ] at h9
          have H9 := hid h9
          clear h7 h8 h9
          go_roundw
          case rel => exact ⟨k + 1, by omega, by go_num, H9.out⟩
          case measure => simp [intOf]; omega
    · have hkn : k = n := by omega
      subst hkn
      go_wp2_with fail
      go_ret
      exact Ret.mk hs
end
end Go.Proofs.Ytgbaigbplaoeaaa
