/- The ways to blocks: way, span, pointers, row. No condition. -/
import Derived.Test.YtklnlomleiebaaaInoP
import Derived.Test.YtklnlomleiebaaaNumE
import Derived.Test.YtklnlomleiebaaaPush
namespace Go.Proofs.Ytklnlomleiebaaa
set_option linter.unusedVariables false
set_option linter.unusedSimpArgs false
open Go.RowKit
def pvs (l : List Nat) : List Value := l.map fun n : Nat => .int .i64 (n : Int)
theorem pvs_len (l : List Nat) : (pvs l).length = l.length := by simp [pvs]
theorem pvs_snoc (l : List Nat) (n : Nat) : pvs (l ++ [n]) = pvs l ++ [.int .i64 (n : Int)] := by simp [pvs]
theorem pvs_get {l : List Nat} {i : Nat} (hi : i < l.length) : (pvs l)[i]? = some (.int .i64 ((l.getD i 0 : Nat) : Int)) := by
  simp [pvs, List.getElem?_eq_getElem hi, List.getD]
theorem pvs_set (l : List Nat) (i p : Nat) : (pvs l).set i (.int .i64 (p : Int)) = pvs (l.set i p) := by simp [pvs, List.map_set]
theorem elem_ints : ElemOk Try.prog 94 3 1 8 [Value.int .i64 0] := .of (z := .int .i64 0) (by kernel_rfl) (by kernel_rfl) rfl rfl (by decide) (by simp [Value.oneCell'])
section
variable {w : World} {L : List HP}
theorem way_ok {k : Nat} (hk : k < 2113670) (w : World) :
    Calls Try.prog 21 #[.int .i64 k] w fun e w' => e = .returned (.tuple #[.int .i64 ((wayN k).1 : Nat), .int .i64 ((wayN k).2.1 : Nat), .int .i64 ((wayN k).2.2 : Nat)]) ∧ w = w' := by
  by_cases h6 : k < 6
  · have Hq := hid (show wayN k = (k, 0, 0) by simp [wayN, h6])
    have e1 : (k : Int) - 6 < 0 := by omega
    have e2 : (k : Int) - 6 + 6 = k := by omega
    go_enter Try.func21, Try.ntmps21
    go_wp2
    go_ret3
    rw [Hq.out]
    exact ⟨rfl, rfl⟩
  · have e1 : ¬ (k : Int) - 6 < 0 := by omega
    obtain ⟨w0, rfl⟩ : ∃ w0 : World, w0 = w := ⟨_, rfl⟩
    go_enter Try.func21, Try.ntmps21
    go_wp2
    go_loopw [0, 5, 6] (fun v0 v5 v6 wr => wr = w0 ∧ ((v5 = .int .i64 1 ∧ v6 = .int .i64 1 ∧ v0 = .int .i64 ((k : Int) - 6)) ∨ (v5 = .int .i64 2 ∧ v6 = .int .i64 128 ∧ v0 = .int .i64 ((k : Int) - 134) ∧ 134 ≤ k) ∨ (v5 = .int .i64 3 ∧ v6 = .int .i64 16384 ∧ v0 = .int .i64 ((k : Int) - 16518) ∧ 16518 ≤ k))) (fun _ v5 _ _ => 3 - (intOf v5).toNat)
    case atStart => exact ⟨rfl, .inl ⟨rfl, rfl, rfl⟩⟩
    case round =>
      obtain ⟨rfl, ⟨rfl, rfl, rfl⟩ | ⟨rfl, rfl, rfl, h1⟩ | ⟨rfl, rfl, rfl, h2⟩⟩ := hrel
      · by_cases h7 : k < 134
        · have Hq := hid (show wayN k = (6, 1, k - 6) by simp [wayN, h6, h7])
          have e3 : (k : Int) - 6 < 128 := by omega
          go_wp2
          go_ret3
          rw [Hq.out, show (k : Int) - 6 = ((k - 6 : Nat) : Int) by omega]
          exact ⟨rfl, rfl⟩
        · have e3 : ¬ (k : Int) - 6 < 128 := by omega
          go_wp2
          go_roundw
          case rel => exact ⟨trivial, .inr (.inl ⟨rfl, rfl, by congr 1; omega, by omega⟩)⟩
          case measure => simp [intOf]
      · by_cases h7 : k < 16518
        · have Hq := hid (show wayN k = (7, 2, k - 134) by simp [wayN, h6, h7]; omega)
          have e3 : (k : Int) - 134 < 16384 := by omega
          go_wp2
          go_ret3
          rw [Hq.out, show (k : Int) - 134 = ((k - 134 : Nat) : Int) by omega]
          exact ⟨rfl, rfl⟩
        · have e3 : ¬ (k : Int) - 134 < 16384 := by omega
          go_wp2
          go_roundw
          case rel => exact ⟨trivial, .inr (.inr ⟨rfl, rfl, by congr 1; omega, by omega⟩)⟩
          case measure => simp [intOf]
      · have Hq := hid (show wayN k = (8, 3, k - 16518) by unfold wayN; rw [if_neg (by omega), if_neg (by omega), if_neg (by omega)])
        go_wp2
        go_ret3
        rw [Hq.out, show (k : Int) - 16518 = ((k - 16518 : Nat) : Int) by omega]
        exact ⟨rfl, rfl⟩
theorem span_ok {d : Nat} (hd : d ≤ 3) (w : World) :
    Calls Try.prog 35 #[.int .i64 d] w fun e w' => e = .returned (.int .i64 ((128 ^ d : Nat) : Int)) ∧ w = w' := by
  obtain rfl | rfl | rfl | rfl : d = 0 ∨ d = 1 ∨ d = 2 ∨ d = 3 := by omega
  all_goals
    go_enter Try.func35, Try.ntmps35
    go_wp2
    go_ret
    exact ⟨rfl, rfl⟩
set_option maxRecDepth 100000 in
theorem pointers_ok {v : Value} {d : List UInt8} (hd : d.length = 512) (h : SatL w L) (g : Gives L (RdB v d)) :
    Calls Try.prog 34 #[v] w (Ret fun v' w' => SatL w' (Sl 3 v' (pvs (ptrsN d)) :: L)) := by
  have h0 := Sl_nil (T := 3) h
  go_enter Try.func34, Try.ntmps34
  go_wp2
  go_loopw [3, 7] (fun out i wr => ∃ j : Nat, j ≤ 128 ∧ i = .int .i64 j ∧ SatL wr (Sl 3 out (pvs ((ptrsN d).take j)) :: L)) (fun _ i _ => 128 - (intOf i).toNat)
  case atStart => exact ⟨0, by omega, rfl, by simpa [pvs] using h0⟩
  case round =>
    clear h0
    obtain ⟨j, hj, rfl, hs⟩ := hrel
    by_cases hlt : j < 128
    · have hle := le_in (k := 4) (at_ := 4 * j) (.inr (.inr (.inl rfl))) (by omega) (g wr hs.tail)
      have hp := ptrN_lt d j
      have hsn := hid (show (ptrsN d).take (j + 1) = (ptrsN d).take j ++ [ptrN d j] by
        rw [List.take_add_one, ← ptrsN_get d hlt, List.getElem?_eq_getElem (by rw [ptrsN_len]; exact hlt)]
        simp [List.getD, ptrsN_len, hlt])
      have hl : ((ptrsN d).take j).length ≤ 128 := by rw [List.length_take]; omega
      have hpe : leN ((d.drop (4 * j)).take 4) = ptrN d j := rfl
      rw [hpe] at hle
      generalize (ptrsN d).take j = T at *
      generalize ptrN d j = p at *
      have b1 : ((pvs T).length + 1) * 8 ≤ 140737488355328 := by rw [pvs_len]; omega
      have b8 : 0 < 8 := by omega
      rw [show ((4 * j : Nat) : Int) = 4 * (j : Int) by omega, show ((4 : Nat) : Int) = 4 from rfl] at hle
      have ew : IntKind.i64.wrap ((p : Nat) : Int) = p := IntWalk.i64_in _ (by omega)
      go_wp2_with (first
        | (go_at_call 43; (with_reducible refine hle.mono ?_); rintro e w6 ⟨rfl, rfl⟩)
        | (at_builtin; refine wpList_push_sl rfl (.tmp 17) (.tmp 20) rfl elem_ints b8 rfl hs rfl rfl b1 ?_; intro v' w6 h6))
      go_roundw
      case rel => exact ⟨j + 1, by omega, by go_num, by rw [hsn.out, pvs_snoc]; exact h6⟩
      case measure => simp [intOf]; omega
    · rw [List.take_of_length_le (by rw [ptrsN_len]; omega)] at hs
      obtain rfl : j = 128 := by omega
      go_wp2
      go_ret
      exact Ret.mk hs
set_option maxRecDepth 100000 in
theorem row_ok {v : Value} {l : List Nat} (hl : l.length = 128) (hp : ∀ p ∈ l, p < 4294967296) (h : SatL w (Sl 3 v (pvs l) :: L)) :
    Calls Try.prog 36 #[v] w (Ret fun v' w' => SatL w' (SlB 5 v' (rowB l) :: Sl 3 v (pvs l) :: L)) := by
  obtain ⟨a, c, rfl, hc1, hc2⟩ := Sl.valn h (show (pvs l).length = 128 by rw [pvs_len]; exact hl)
  obtain ⟨b, off, rfl⟩ := Sl.addr h (by omega)
  have h0 := Sl_nil (T := 5) h
  go_enter Try.func36, Try.ntmps36
  go_wp2
  go_loopw [3, 8] (fun out i wr => ∃ j : Nat, j ≤ 128 ∧ i = .int .i64 j ∧ SatL wr (SlB 5 out (rowB (l.take j)) :: Sl 3 (.slice (some ⟨b, off, none⟩) 128 c) (pvs l) :: L)) (fun _ i _ => 128 - (intOf i).toNat)
  case atStart => exact ⟨0, by omega, rfl, by exact h0⟩
  case round =>
    clear h0
    obtain ⟨j, hj, rfl, hs⟩ := hrel
    by_cases hlt : j < 128
    · have hpj := hp (l.getD j 0) (by simp [List.getD, hl, hlt])
      have c0 := Sl.cell hs.swap (pvs_get (i := j) (by omega))
      have hsn := hid (show l.take (j + 1) = l.take j ++ [l.getD j 0] by
        rw [List.take_add_one, List.getElem?_eq_getElem (by omega)]
        simp [List.getD, hl, hlt])
      have hl2 : (rowB (l.take j)).length ≤ 512 := by rw [rowB_len, List.length_take]; omega
      have ex : rowB (l.take (j + 1)) = rowB (l.take j) ++ [l.getD j 0].flatMap (lowb 4) := by rw [hsn.out, rowB_snoc]; simp
      have hex := hid ex
      clear ex hsn
      generalize rowB (l.take j) = R at *
      generalize l.getD j 0 = p at *
      have ew : IntKind.u64.wrap ((p : Nat) : Int) = p := by rw [u64_in _ (by omega)]
      have al := hs.alloc (.cells #[.int .u64 (p : Int)] 22)
      have hput := putle4 (vu := .slice (some ⟨wr.heap.size, 0, none⟩) 1 1) (bs := R) (us := [p]) (by simpa using hpj) (by simp; omega) al
        (fun w' h' => SlB.rd h'.swap) (fun w' h' => RdU.ofCl (l := [p]) h' rfl rfl (by omega) (by omega))
      go_wp2_with (first
        | (go_at_call 32; (with_reducible refine hput.mono ?_); rintro e w6 ⟨_, rfl, v', rfl, h6⟩))
      go_roundw
      case rel => exact ⟨j + 1, by omega, by go_num, by rw [hex.out]; exact (h6.bring [1, 2]).tail.tail⟩
      case measure => simp [intOf]; omega
    · rw [List.take_of_length_le (by omega)] at hs
      obtain rfl : j = 128 := by omega
      go_wp2
      go_ret
      exact Ret.mk hs
end
end Go.Proofs.Ytklnlomleiebaaa
