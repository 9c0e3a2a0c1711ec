/- VolReads: for every input it returns true and writes nothing that was there. No condition. -/
import Derived.Test.YtgbaigbplaoeaaaKnown9
import Derived.Test.YtgbaigbplaoeaaaSuper
import Derived.Test.YtgbaigbplaoeaaaArg
import Derived.Deep.RegionHeld3
namespace Go.Proofs.Ytgbaigbplaoeaaa
set_option linter.unusedVariables false
set_option linter.unusedSimpArgs false
open Go.RowKit

theorem decV_form (bs : List UInt8) : ∃ x0 x1 x2 x3 x4 x5 x6 x7 : Int, decV bs = .agg #[.int .i64 x0, .int .i64 x1, .int .i64 x2, .int .i64 x3, .int .i64 x4, .int .i64 x5, .int .i64 x6, .int .i64 x7] := by
  unfold decV
  split
  · exact ⟨_, _, _, _, _, _, _, _, rfl⟩
  · exact ⟨_, _, _, _, _, _, _, _, rfl⟩
theorem planErr_cases {b i : Int} (h : planErr b i = 0) : planGood b i ∧ planSup b i = planV b i (tableOf b) (dataOf b i) := by
  refine ⟨?_, by unfold planSup; rw [if_pos h]⟩
  unfold planErr at h
  split at h
  · assumption
  · cases h
theorem addByte (x : UInt8) (y : Nat) : Value.int .u8 (((x.toNat : Int) + (y : Int)) % 256) = bv (byteOf (x.toNat + y)) := by
  rw [bv_byteOf, Int.natCast_emod, Int.natCast_add]; rfl

section
variable {w : World} {L : List HP}
set_option maxRecDepth 100000 in
set_option maxHeartbeats 4000000 in
theorem reads_walk (a0 a1 : Int) (a2 : Option Addr) (l2 c2 : Nat) (a3 : Option Addr) (l3 c3 : Nat) (A : Nat → Int) (B : Nat → Nat) (w : World) (hA : IsRow w 1 a2 l2 (fun i => [.int .i64 (A i)])) (hB : IsRow w 1 a3 l3 (fun i => [.int .u8 (B i)]))
    (hA2 : ∀ i, -9223372036854775808 ≤ A i ∧ A i ≤ 9223372036854775807) :
    Calls Try.prog 3 #[.int .i64 a0, .int .i64 a1, .slice a2 l2 c2, .slice a3 l3 c3] w (Ret fun v w' => v = .bool true ∧ SatL w' [old w]) := by
  have hk := known_ok (sat_old w)
  have hp := fun (w1 : World) (h : SatL w1 [old w]) => refplan_ok h a0 a1
  unfold PlanPost at hp
  obtain ⟨hl2, hA⟩ := hA
  obtain ⟨hl3, hB⟩ := hB
  by_cases he : planErr a0 a1 = 0
  · obtain ⟨hg, hs⟩ := planErr_cases he
    rw [hs, he] at hp
    clear hs
    obtain ⟨g1, g2, g3, g4, g5⟩ := hg
    obtain ⟨b, rfl⟩ : ∃ b : Nat, a0 = b := ⟨a0.toNat, by omega⟩
    obtain ⟨i, rfl⟩ : ∃ i : Nat, a1 = i := ⟨a1.toNat, by omega⟩
    have hen := fun (w1 : World) (L : List HP) (h : SatL w1 L) => refencode_ok h b i (by omega) (by omega) (tableOf b) (dataOf b i)
    rw [planV] at hp
    simp only [planV] at hen
    generalize tableOf b = tb at *
    generalize dataOf b i = dt at *
    have hlen := encB_len b i
    clear he
    go_enter Try.func3, Try.ntmps3
    go_wp2_with (first
      | (go_at_call 8; (with_reducible refine hk.mono ?_); rintro e w1 ⟨v, rfl, rfl, hs1⟩; have p1 := hp _ hs1)
      | (go_at_call 9; (with_reducible refine p1.mono ?_); rintro e w2 ⟨v, rfl, rfl, hs2⟩; have k2 := hs2.alloc (.cells #[.int .i64 b, .int .i64 i, .int .i64 1, .int .i64 2, .int .i64 68, .int .i64 69, .int .i64 tb, .int .i64 dt] 26); have p2 := hen _ _ k2)
      | (go_at_call 10; (with_reducible refine p2.mono ?_); rintro e w3 ⟨v, rfl, hs3⟩; obtain ⟨ba, bc, rfl, q1, q2⟩ := Sl.valn hs3 (m := 512) (by rw [bvs_len, hlen]); obtain ⟨bb, bo, rfl⟩ := Sl.addr hs3 (by omega)))
    clear hs1 hs2 p1 p2 hen hp hk
    have hs4 : SatL w3 (SlB 5 (.slice (some ⟨bb, bo, none⟩) 512 bc) (encB b i) :: [old w]) := (SatL.tail hs3.swap : SatL w3 (SlB _ _ _ :: [old w]))
    generalize encB b i = bs0 at *
    clear hs3
    go_loopw [12] (fun ii wr => ∃ (k : Nat) (bs : List UInt8), k ≤ l2 ∧ k ≤ l3 ∧ k ≤ 10 ∧ bs.length = 512 ∧ ii = .int .i64 k ∧ SatL wr (SlB 5 (.slice (some ⟨bb, bo, none⟩) 512 bc) bs :: [old w])) (fun ii _ => 10 - (intOf ii).toNat)
    case atStart => exact ⟨0, bs0, by omega, by omega, by omega, hlen, rfl, hs4⟩
    case round =>
      clear hs4 hlen
      obtain ⟨k, bs, k2, k3, k10, hlen, rfl, hs⟩ := hrel
      have hend : ∀ (w' : World), SatL w' (SlB 5 (.slice (some ⟨bb, bo, none⟩) 512 bc) bs :: [old w]) → Calls Try.prog 11 #[.slice (some ⟨bb, bo, none⟩) 512 bc] w' (Ret fun r w' => r = .tuple #[decV bs, .int .i64 (decE bs)] ∧ SatL w' (SlB 5 (.slice (some ⟨bb, bo, none⟩) 512 bc) bs :: [old w])) := fun w' h => decode_ok hlen h
      have hendr : ∀ (w' : World) (P : HP), SatL w' (P :: SlB 5 (.slice (some ⟨bb, bo, none⟩) 512 bc) bs :: [old w]) → Calls Try.prog 12 #[.slice (some ⟨bb, bo, none⟩) 512 bc] w' (Ret fun r w' => r = .tuple #[decV bs, .int .i64 (decE bs)] ∧ SatL w' (SlB 5 (.slice (some ⟨bb, bo, none⟩) 512 bc) bs :: P :: [old w])) := fun w' P h => refdecode_ok hlen h.swap
      obtain ⟨x0, x1, x2, x3, x4, x5, x6, x7, hx⟩ := decV_form bs
      rw [hx] at hend hendr
      generalize decE bs = de at *
      have hsu := fun (w' : World) (L : List HP) (h : SatL w' L) => super_ok x0 x1 x2 x3 x4 x5 x6 x7 h
      clear hx
      by_cases hgo : k < l2 ∧ k < l3 ∧ k < 10
      · obtain ⟨j2, j3, j10⟩ := hgo
        obtain ⟨ab, ao, rfl, hac⟩ := hA (by omega)
        obtain ⟨yb, yo, rfl, hyc⟩ := hB (by omega)
        have ca := SatL.oldCell hs.swap ((hac k j2).2 0 _ rfl)
        have cy := SatL.oldCell hs.swap ((hyc k j3).2 0 _ rfl)
        rw [Nat.mul_one, Nat.add_zero] at ca cy
        have hAk := hA2 k
        clear hac hyc hA hB hend hendr hsu
        have hm1 : (A k).tmod 512 < 512 := Int.tmod_lt_of_pos _ (by omega)
        have hm2 : -512 < (A k).tmod 512 := Int.lt_tmod_of_pos _ (by omega)
        generalize A k = ak at *
        generalize hM : ak.tmod 512 = M at *
        have HM := hid hM
        clear hM
        have fin : ∀ (q : Nat), q < 512 → M = q ∨ M = -(q : Int) → True := fun _ _ _ => trivial
        by_cases hM0 : 0 ≤ M
        · obtain ⟨q, rfl⟩ : ∃ q : Nat, M = q := ⟨M.toNat, by omega⟩
          have hM' := HM.out
          have hc := SlB.cell hs (i := q) (by omega)
          have hf := Sl.free hs (bo + q)
          have Hset := hid (fun (x : Value) => Sl.set hs (i := q) (by rw [bvs_len]; omega) x)
          generalize hX : (bs.getD q 0) = x at *
          have HX := hid hX
          have q0 : (0 : Int) ≤ q := by omega
          have q5 : (q : Int) < 512 := by omega
          clear hX fin HM
          go_wp2
          go_region
          go_wp2
          go_roundw
          case rel => 
            have h7 := sat_drew.2 (Hset.out (.int .u8 (((x.toNat : Int) + (B k : Int)) % 256)))
            refine ⟨k + 1, bs.set q (byteOf (x.toNat + B k)), by omega, by omega, by omega, by rw [List.length_set]; exact hlen, by go_num, ?_⟩
            rw [addByte, ← List.map_set] at h7
            rw [addByte]
            exact h7
          case measure => simp [intOf]; omega
        · obtain ⟨q, hq⟩ : ∃ q : Nat, M = -(q : Int) := ⟨(-M).toNat, by omega⟩
          subst hq
          have hM' := HM.out
          have hM1 : -(q : Int) < 0 := by omega
          have hc := SlB.cell hs (i := q) (by omega)
          have hf := Sl.free hs (bo + q)
          have Hset := hid (fun (x : Value) => Sl.set hs (i := q) (by rw [bvs_len]; omega) x)
          generalize hX : (bs.getD q 0) = x at *
          have HX := hid hX
          have q0 : (0 : Int) ≤ q := by omega
          have q5 : (q : Int) < 512 := by omega
          have qq : (0 : Int) - -(q : Int) = q := by omega
          clear hX fin HM hM0
          go_wp2
          go_region
          go_wp2
          go_roundw
          case rel => 
            have h7 := sat_drew.2 (Hset.out (.int .u8 (((x.toNat : Int) + (B k : Int)) % 256)))
            refine ⟨k + 1, bs.set q (byteOf (x.toNat + B k)), by omega, by omega, by omega, by rw [List.length_set]; exact hlen, by go_num, ?_⟩
            rw [addByte, ← List.map_set] at h7
            rw [addByte]
            exact h7
          case measure => simp [intOf]; omega
      · have hgo2 : ¬ (k : Int) < l2 ∨ ¬ (k : Int) < l3 ∨ ¬ (k : Int) < 10 := by omega
        clear hA hB hgo
        have hx8 : ∀ (w' : World) (sb T : Nat) (L : List HP), SatL w' (cl sb T #[.int .i64 x0, .int .i64 x1, .int .i64 x2, .int .i64 x3, .int .i64 x4, .int .i64 x5, .int .i64 x6, .int .i64 x7] :: L) → w'.cell? ⟨sb, 0, none⟩ = some (.int .i64 x0) ∧ w'.cell? ⟨sb, 1, none⟩ = some (.int .i64 x1) ∧ w'.cell? ⟨sb, 2, none⟩ = some (.int .i64 x2) ∧ w'.cell? ⟨sb, 3, none⟩ = some (.int .i64 x3) ∧ w'.cell? ⟨sb, 4, none⟩ = some (.int .i64 x4) ∧ w'.cell? ⟨sb, 5, none⟩ = some (.int .i64 x5) ∧ w'.cell? ⟨sb, 6, none⟩ = some (.int .i64 x6) ∧ w'.cell? ⟨sb, 7, none⟩ = some (.int .i64 x7) :=
          fun w' sb T L h => ⟨h.cell (i := 0) rfl, h.cell (i := 1) rfl, h.cell (i := 2) rfl, h.cell (i := 3) rfl, h.cell (i := 4) rfl, h.cell (i := 5) rfl, h.cell (i := 6) rfl, h.cell (i := 7) rfl⟩
        have Hx8 := hid hx8
        clear hx8
        have hgo3 : ¬ (k : Int) < l2 ∨ ((k : Int) < l2 ∧ ¬ (k : Int) < l3) ∨ ((k : Int) < l2 ∧ (k : Int) < l3 ∧ ¬ (k : Int) < 10) := by omega
        clear hgo2
        rcases hgo3 with hgo | ⟨hgo1, hgo⟩ | ⟨hgo1, hgo2, hgo⟩
        all_goals
          go_wp2_with (first
            | (go_at_call 11; (with_reducible refine (hend _ hs).mono ?_); rintro e w4 ⟨v, rfl, rfl, hs4⟩; have k4 := hs4.alloc (.cells #[.int .i64 x0, .int .i64 x1, .int .i64 x2, .int .i64 x3, .int .i64 x4, .int .i64 x5, .int .i64 x6, .int .i64 x7] 30); have p5 := hendr _ _ k4)
            | (go_at_call 12; (with_reducible refine p5.mono ?_); rintro e w5 ⟨v, rfl, rfl, hs5⟩; have k5 := hs5.alloc (.cells #[.int .i64 x0, .int .i64 x1, .int .i64 x2, .int .i64 x3, .int .i64 x4, .int .i64 x5, .int .i64 x6, .int .i64 x7] 26)))
          have p6 := hsu _ _ (sat_drew.2 k5)
          obtain ⟨c0, c1, c2, c3, c4, c5, c6, c7⟩ := Hx8.out _ _ _ _ (sat_drew.2 k5)
          obtain ⟨d0, d1, d2, d3, d4, d5, d6, d7⟩ := Hx8.out _ _ _ _ ((sat_drew.2 k5).pull 2 : SatL _ (cl _ _ _ :: _))
          clear hsu hend hendr p5 k4
          go_region_held3 (fun w' => w'.cell? ⟨w4.heap.size, 0, none⟩ = some (.int .i64 x0) ∧ w'.cell? ⟨w4.heap.size, 1, none⟩ = some (.int .i64 x1) ∧ w'.cell? ⟨w4.heap.size, 2, none⟩ = some (.int .i64 x2) ∧ w'.cell? ⟨w4.heap.size, 3, none⟩ = some (.int .i64 x3) ∧ w'.cell? ⟨w4.heap.size, 4, none⟩ = some (.int .i64 x4) ∧ w'.cell? ⟨w4.heap.size, 5, none⟩ = some (.int .i64 x5) ∧ w'.cell? ⟨w4.heap.size, 6, none⟩ = some (.int .i64 x6) ∧ w'.cell? ⟨w4.heap.size, 7, none⟩ = some (.int .i64 x7) ∧ w'.cell? ⟨w5.heap.size, 0, none⟩ = some (.int .i64 x0) ∧ w'.cell? ⟨w5.heap.size, 1, none⟩ = some (.int .i64 x1) ∧ w'.cell? ⟨w5.heap.size, 2, none⟩ = some (.int .i64 x2) ∧ w'.cell? ⟨w5.heap.size, 3, none⟩ = some (.int .i64 x3) ∧ w'.cell? ⟨w5.heap.size, 4, none⟩ = some (.int .i64 x4) ∧ w'.cell? ⟨w5.heap.size, 5, none⟩ = some (.int .i64 x5) ∧ w'.cell? ⟨w5.heap.size, 6, none⟩ = some (.int .i64 x6) ∧ w'.cell? ⟨w5.heap.size, 7, none⟩ = some (.int .i64 x7))
            (first | exact ⟨d0, d1, d2, d3, d4, d5, d6, d7, c0, c1, c2, c3, c4, c5, c6, c7⟩ | exact ⟨n0, n1, n2, n3, n4, n5, n6, n7, m0, m1, m2, m3, m4, m5, m6, m7⟩ | go_keep)
            (first
              | (go_at_call 13; (with_reducible refine p6.mono ?_); rintro e w6 ⟨v, rfl, rfl, hs6⟩; obtain ⟨m0, m1, m2, m3, m4, m5, m6, m7⟩ := Hx8.out _ _ _ _ hs6; obtain ⟨n0, n1, n2, n3, n4, n5, n6, n7⟩ := Hx8.out _ _ _ _ (hs6.pull 2 : SatL _ (cl _ _ _ :: _))))
          go_wp2
          go_ret
          exact Ret.mk ⟨rfl, SatL.tail (SatL.tail (SatL.tail hs6))⟩
  · have hpe : (planErr a0 a1 != 0) = true := by simpa using he
    have hsup : planSup a0 a1 = noplan := by unfold planSup; rw [if_neg he]
    rw [hsup, noplan] at hp
    generalize planErr a0 a1 = pe at *
    clear hsup he
    have hs := hp
    clear hp
    go_enter Try.func3, Try.ntmps3
    go_wp2_with (first
      | (go_at_call 8; (with_reducible refine hk.mono ?_); rintro e w1 ⟨v, rfl, rfl, hs1⟩; have p1 := hs _ hs1)
      | (go_at_call 9; (with_reducible refine p1.mono ?_); rintro e w2 ⟨v, rfl, rfl, hs2⟩; have hs3 := (hs2.alloc (.cells #[.int .i64 0, .int .i64 0, .int .i64 0, .int .i64 0, .int .i64 0, .int .i64 0, .int .i64 0, .int .i64 0] 26))))
    go_ret
    exact Ret.mk ⟨rfl, SatL.tail hs3⟩
end
end Go.Proofs.Ytgbaigbplaoeaaa
