/- A new volume, by the document: what Mkfs tells. -/
import Derived.Test.YtklnlomleiebaaaVolC
import Derived.Test.YtklnlomleiebaaaPuts
namespace Go.Proofs.Ytklnlomleiebaaa
set_option linter.unusedVariables false
set_option linter.unusedSimpArgs false
open Go.RowKit

def anyN (n : Nat) (P : Nat → Bool) : Bool := (List.range n).any P
theorem anyN_succ (n : Nat) (P : Nat → Bool) : anyN (n + 1) P = (anyN n P || P n) := by simp [anyN, List.range_succ]
def imP (i : Nat) : Nat → Bool := fun j => decide (j < 2) || decide (i ≤ j)
def bmP (b dt q : Nat) : Nat → Bool := fun k => decide (q * 4096 + k ≤ dt) || decide (b ≤ q * 4096 + k)
def bmList (b dt n : Nat) : List (Int × List UInt8) := (List.range n).flatMap fun q => if anyN 4096 (bmP b dt q) then [(((69 + q : Nat) : Int), bitsN 512 (bmP b dt q))] else []
theorem bmList_succ (b dt n : Nat) : bmList b dt (n + 1) = bmList b dt n ++ (if anyN 4096 (bmP b dt n) then [(((69 + n : Nat) : Int), bitsN 512 (bmP b dt n))] else []) := by
  simp [bmList, List.range_succ]
theorem bmList_len (b dt n : Nat) : (bmList b dt n).length ≤ n := by
  induction n with
  | zero => simp [bmList]
  | succ n ih => rw [bmList_succ, List.length_append]; split <;> simp <;> omega
def entryB (nm : List UInt8) : List UInt8 := lowb 4 1 ++ [byteOf nm.length] ++ nm ++ List.replicate (32 - (5 + nm.length)) 0
def tableB (dt sec nsec : Nat) : List UInt8 := List.replicate 128 0 ++ rootB dt sec nsec ++ List.replicate 256 0
def dirB : List UInt8 := entryB [46] ++ entryB [46, 46] ++ List.replicate 448 0
def tableN (b : Nat) : Nat := 69 + (b + 4095) / 4096
def dataN (b i : Nat) : Nat := tableN b + i / 4
def mkfsL (b i sec nsec : Nat) : List (Int × List UInt8) :=
  [(0, encB b i), (68, bitsN 512 (imP i))] ++ bmList b (dataN b i) (tableN b - 69) ++ [((tableN b : Int), tableB (dataN b i) sec nsec), ((dataN b i : Int), dirB)]

theorem rootB_len (d sec nsec : Nat) : (rootB d sec nsec).length = 128 := by
  simp only [rootB, List.length_append, rootHead_len, stamps_len, lowb_len, List.length_replicate]
theorem entryB_len1 : (entryB [46]).length = 32 := by
  simp only [entryB, List.length_append, lowb_len, List.length_replicate, List.length_cons, List.length_nil]
theorem entryB_len2 : (entryB [46, 46]).length = 32 := by
  simp only [entryB, List.length_append, lowb_len, List.length_replicate, List.length_cons, List.length_nil]
theorem z128_len : (bvs ([] ++ List.replicate (Int.toNat 128) 0)).length = 128 := by rw [bvs_len, List.nil_append, List.length_replicate]; rfl
theorem zr_len (d s n : Nat) : (bvs (([] ++ List.replicate (Int.toNat 128) 0 : List UInt8) ++ rootB d s n)).length = 256 := by rw [bvs_len, List.length_append, List.nil_append, List.length_replicate, rootB_len]; rfl
theorem zrz_len (d s n : Nat) : (bvs ((([] ++ List.replicate (Int.toNat 128) 0 : List UInt8) ++ rootB d s n) ++ List.replicate (Int.toNat 256) 0)).length = 512 := by rw [bvs_len, List.length_append, List.length_append, List.nil_append, List.length_replicate, List.length_replicate, rootB_len]; rfl
theorem ee_len : (bvs (entryB [46] ++ entryB [46, 46])).length = 64 := by rw [bvs_len, List.length_append, entryB_len1, entryB_len2]
theorem dir_len : (bvs ((entryB [46] ++ entryB [46, 46]) ++ List.replicate (Int.toNat 448) 0)).length = 512 := by rw [bvs_len, List.length_append, List.length_append, entryB_len1, entryB_len2, List.length_replicate]; rfl
/-- bits below a number -/
def upto (P : Nat → Bool) (k : Nat) : Nat → Bool := fun j => decide (j < k) && P j
theorem upto_yes {n : Nat} {P : Nat → Bool} {k : Nat} (h : P k = true) : bitsN n (fun j => upto P k j || j == k) = bitsN n (upto P (k + 1)) := by
  apply bitsN_congr
  intro j _
  unfold upto
  by_cases hj : j = k
  · subst hj; simp [h]
  · have h1 : (j == k) = false := by simpa using hj
    have h2 : decide (j < k + 1) = decide (j < k) := by rw [decide_eq_decide]; omega
    simp [h1, h2]
theorem upto_no {n : Nat} {P : Nat → Bool} {k : Nat} (h : P k = false) : bitsN n (upto P k) = bitsN n (upto P (k + 1)) := by
  apply bitsN_congr
  intro j _
  unfold upto
  by_cases hj : j = k
  · subst hj; simp [h]
  · have h2 : decide (j < k + 1) = decide (j < k) := by rw [decide_eq_decide]; omega
    simp [h2]
theorem upto_all {n k : Nat} {P : Nat → Bool} (h : 8 * n ≤ k) : bitsN n (upto P k) = bitsN n P := by
  apply bitsN_congr
  intro j hj
  unfold upto
  have : j < k := by omega
  simp [this]
theorem upto_none {n : Nat} {P : Nat → Bool} : bitsN n (upto P 0) = List.replicate n 0 := by
  rw [← bitsN_zero]
  apply bitsN_congr
  intro j _
  simp [upto]

section
variable {w : World} {L : List HP}
theorem plan_nat {b i : Nat} (hg : planGood b i) (he : planErr b i = 0) : tableOf b = (tableN b : Int) ∧ dataOf b i = (dataN b i : Int) ∧ dataN b i + 8 ≤ b ∧ 70 ≤ tableN b ∧ tableN b ≤ 85 := by
  have h1 : tableOf b = (tableN b : Int) := by unfold tableOf tableN; omega
  have h2 : dataOf b i = (dataN b i : Int) := by unfold dataOf dataN; rw [h1]; omega
  obtain ⟨g1, g2, g3, g4, g5⟩ := id hg
  unfold planErr at he
  rw [if_pos hg] at he
  refine ⟨h1, h2, ?_, ?_, ?_⟩
  · split at he
    · cases he
    · rename_i h; rw [h2] at h; omega
  · unfold tableN; omega
  · unfold tableN; omega
abbrev planCells (b i tb dt : Nat) : Array Value := #[.int .i64 b, .int .i64 i, .int .i64 1, .int .i64 2, .int .i64 68, .int .i64 69, .int .i64 tb, .int .i64 dt]
theorem refplan_good {b i : Nat} (hg : planGood b i) (he : planErr b i = 0) (h : SatL w L) : Calls Try.prog 37 #[.int .i64 b, .int .i64 i] w (Ret fun v w' => v = .tuple #[.agg (planCells b i (tableN b) (dataN b i)), .int .i64 0] ∧ SatL w' L) := by
  refine (refplan_ok h b i).mono ?_
  rintro e w' ⟨v, rfl, hv, hs⟩
  obtain ⟨h1, h2, _⟩ := plan_nat hg he
  refine ⟨v, rfl, ?_, hs⟩
  rw [hv, he]
  unfold planSup
  rw [if_pos he, h1, h2]
  rfl

theorem rootc_ok {b i tb d sec nsec : Nat} (hd : d < 4294967296) (h1 : sec < 4294967296) (h2 : nsec < 4294967296) (h : SatL w L) :
    Calls Try.prog 41 #[.agg (planCells b i tb d), .agg #[.int .u32 sec, .int .u32 nsec]] w (Ret fun v w' => SatL w' (SlB 5 v (rootB d sec nsec) :: L)) := root_ok hd h1 h2 b i tb h
theorem entry1_ok (h : SatL w L) : Calls Try.prog 42 #[.int .i64 1, .string { data := #[46] }] w (Ret fun v w' => SatL w' (SlB 5 v (entryB [46]) :: L)) := entry_ok (i := 1) (by omega) (by show 1 < 20; omega) h
theorem entry2_ok (h : SatL w L) : Calls Try.prog 42 #[.int .i64 1, .string { data := #[46, 46] }] w (Ret fun v w' => SatL w' (SlB 5 v (entryB [46, 46]) :: L)) := entry_ok (i := 1) (by omega) (by show 2 < 20; omega) h

set_option maxRecDepth 100000 in
set_option maxHeartbeats 8000000 in
theorem mkfs_ok {b i sec nsec : Nat} (hg : planGood b i) (he : planErr b i = 0) (hse : sec < 4294967296) (hns : nsec < 4294967296) (h : SatL w L) :
    Calls Try.prog 23 #[.int .i64 b, .int .i64 i, .agg #[.int .u32 sec, .int .u32 nsec]] w (Ret fun v w' => ∃ lv, v = .tuple #[lv, .int .i64 0] ∧ SatL w' (PutsL lv (mkfsL b i sec nsec) :: L)) := by
  have k1 := h.alloc (.cells #[.int .u32 sec, .int .u32 nsec] 28)
  have hpl := refplan_good hg he k1
  obtain ⟨_, _, hd8, ht0, ht1⟩ := plan_nat hg he
  have hbb : b ≤ 65536 ∧ i ≤ 4096 ∧ 8 ≤ i := by obtain ⟨g1, g2, g3, g4, g5⟩ := hg; omega
  have henc : ∀ (w : World) (L : List HP), SatL w L → Calls Try.prog 38 #[.agg (planCells b i (tableN b) (dataN b i))] w (Ret fun v w' => SatL w' (SlB 5 v (encB b i) :: L)) := fun w L h => refencode_ok h b i (by omega) (by omega) _ _
  clear hg he h
  have hle := encB_len b i
  generalize hE : encB b i = EB at *
  generalize htb : tableN b = tb at *
  generalize hdt : dataN b i = dt at *
  unfold mkfsL
  rw [htb, hdt, hE]
  clear hE htb hdt
  go_enter Try.func23, Try.ntmps23
  go_wp2_with (first
    | (go_at_call 37; (with_reducible refine hpl.mono ?_); rintro e w1 ⟨v, rfl, rfl, hs1⟩; have k2 := hs1.alloc (.cells #[.int .i64 b, .int .i64 i, .int .i64 1, .int .i64 2, .int .i64 68, .int .i64 69, .int .i64 tb, .int .i64 dt] 98); have hen := henc _ _ k2)
    | (go_at_call 38; (refine hen.mono ?_); rintro e w2 ⟨v2, rfl, hs2⟩; obtain ⟨a2, c2, rfl, q1, q2⟩ := Sl.valn hs2 (m := 512) (by rw [bvs_len, hle]); have k3 := hs2.alloc (.cells #[.int .i64 0, .slice a2 512 c2] 66); have k4 := PutsR.one k3)
    | (refine wpList_make_sl rfl (.const (.int .i64 512)) (.const (.int .i64 512)) rfl elem_byte 512 rfl rfl k4 (by omega) (by omega) ?_; intro w3 hs3; rw [show (w2.alloc (.cells #[.int .i64 0, .slice a2 512 c2] 66)).heap.size = w2.heap.size + 1 by simp] at hs3))
  have hs5 : SatL w3 (SlB 5 (.slice (some ⟨w2.heap.size + 1, 0, none⟩) 512 512) (bitsN 512 (upto (imP i) 0)) :: PutsR (.slice (some ⟨w2.heap.size, 0, none⟩) 1 1) [⟨0, .slice a2 512 c2, EB⟩] :: cl w1.heap.size 98 (planCells b i tb dt) :: cl w.heap.size 28 #[.int .u32 sec, .int .u32 nsec] :: L) := by
    rw [upto_none]
    unfold SlB
    rw [bvs_zeros]
    exact hs3
  clear hs3 k4 k3 hs2 hen k2 hs1 hpl k1 henc
  generalize w1.heap.size = SB at *
  generalize w2.heap.size = PB at *
  clear w1 w2
  generalize Value.slice a2 512 c2 = EV at *
  go_loopw [12] (fun ii wr => ∃ j : Nat, j ≤ 4096 ∧ ii = .int .i64 j ∧ SatL wr (SlB 5 (.slice (some ⟨PB + 1, 0, none⟩) 512 512) (bitsN 512 (upto (imP i) j)) :: PutsR (.slice (some ⟨PB, 0, none⟩) 1 1) [⟨0, EV, EB⟩] :: cl SB 98 (planCells b i tb dt) :: cl w.heap.size 28 #[.int .u32 sec, .int .u32 nsec] :: L)) (fun ii _ => 4096 - (intOf ii).toNat)
  case atStart => exact ⟨0, by omega, rfl, hs5⟩
  case round =>
    obtain ⟨j, hj, rfl, hs6⟩ := hrel
    clear hs5
    by_cases hlt : j < 4096
    · by_cases hc : j < 2 ∨ i ≤ j
      · have Hu := hid (upto_yes (n := 512) (P := imP i) (k := j) (by unfold imP; rcases hc with h | h <;> simp [h]))
        go_wp2_with (go_at_call 39; (refine (set_ok (by omega) (by omega) hs6).mono ?_); rintro e w4 ⟨v, rfl, rfl, hs7⟩)
        all_goals
          rw [Hu.out] at hs7
          go_roundw
          case rel => exact ⟨j + 1, by omega, by go_num, hs7⟩
          case measure => simp [intOf]; omega
      · have Hu := hid (upto_no (n := 512) (P := imP i) (k := j) (by unfold imP; simp; omega))
        have hc2 : ¬ (j < 2) := by omega
        have hc3 : ¬ (i ≤ j) := by omega
        clear hc
        go_wp2
        rw [Hu.out] at hs6
        go_roundw
        case rel => exact ⟨j + 1, by omega, by go_num, hs6⟩
        case measure => simp [intOf]; omega
    · obtain rfl : j = 4096 := by omega
      rw [upto_all (by omega)] at hs6
      have c4 : wr.cell? ⟨SB, 4, none⟩ = some (.int .i64 68) := (hs6.pull 2 : SatL _ (cl _ _ _ :: _)).cell (i := 4) rfl
      have hK := sat_PutsR.1 (hs6.pull 1 : SatL _ (PutsR _ _ :: _))
      have hone : ∀ y ∈ (#[Value.int .i64 68, .slice (some ⟨PB + 1, 0, none⟩) 512 512] : Array Value).toList, y.oneCell' = true := by simp [Value.oneCell']
      have b32 : 0 < 32 := by omega
      have b1 : (1 + 1) * 32 ≤ 140737488355328 := by omega
      go_wp2_with (at_builtin; refine wpList_pushK_sl rfl rfl (.tmp 48) (.tmp 53) rfl elem_put b32 rfl hK rfl rfl hone b1 ?_; intro v5 w5 h5; have hs7 := PutsL.snoc (SatL.bring h5 [0, 1, 2]); have c5 : w5.cell? ⟨SB, 5, none⟩ = some (.int .i64 69) := (SatL.pull hs7 1 : SatL _ (cl _ _ _ :: _)).cell (i := 5) rfl)
      have hps0 : (([⟨0, EV, EB⟩] ++ [⟨68, .slice (some ⟨PB + 1, 0, none⟩) 512 512, bitsN 512 (imP i)⟩] : List Pt).map fun p => (p.b, p.d)) = [(0, EB), (68, bitsN 512 (imP i))] ++ bmList b dt 0 := rfl
      generalize ([⟨0, EV, EB⟩] ++ [⟨68, .slice (some ⟨PB + 1, 0, none⟩) 512 512, bitsN 512 (imP i)⟩] : List Pt) = ps0 at *
      clear h5 hK hs6 c4 b1 hone
      obtain ⟨wo, rfl⟩ : ∃ wo : World, wo = w5 := ⟨_, rfl⟩
      go_loopw [10, 13] (fun lv ii wr => ∃ (q : Nat) (ps : List Pt), q + 69 ≤ tb ∧ ii = .int .i64 ((69 + q : Nat) : Int) ∧ (ps.map fun p => (p.b, p.d)) = [(0, EB), (68, bitsN 512 (imP i))] ++ bmList b dt q ∧ SatL wr (PutsR lv ps :: cl SB 98 (planCells b i tb dt) :: cl w.heap.size 28 #[.int .u32 sec, .int .u32 nsec] :: L)) (fun _ ii _ => tb - (intOf ii).toNat)
      case atStart => exact ⟨0, ps0, by omega, rfl, hps0, hs7⟩
      case round =>
        obtain ⟨q, ps, hq, rfl, hps, hs8⟩ := hrel
        clear hs7 c5 hps0
        have hpl : ps.length ≤ 2 + q := by
          have := congrArg List.length hps
          simp only [List.length_map, List.length_append, List.length_cons, List.length_nil] at this
          have := bmList_len b dt q
          omega
        have Hps := hid hps
        clear hps
        have c6 : wr.cell? ⟨SB, 6, none⟩ = some (.int .i64 tb) := (hs8.pull 1 : SatL _ (cl _ _ _ :: _)).cell (i := 6) rfl
        by_cases hlq : q + 69 < tb
        · go_wp2_with (refine wpList_make_sl rfl (.const (.int .i64 512)) (.const (.int .i64 512)) rfl elem_byte 512 rfl rfl hs8 (by omega) (by omega) ?_; intro w6 hs9)
          have hs10 : SatL w6 (SlB 5 (.slice (some ⟨wr.heap.size, 0, none⟩) 512 512) (bitsN 512 (upto (bmP b dt q) 0)) :: PutsR u10 ps :: cl SB 98 (planCells b i tb dt) :: cl w.heap.size 28 #[.int .u32 sec, .int .u32 nsec] :: L) := by
            rw [upto_none]
            unfold SlB
            rw [bvs_zeros]
            exact hs9
          clear hs9 hs8 c6
          generalize wr.heap.size = NB at *
          go_loopw [15, 16] (fun fl ii wr => ∃ k : Nat, k ≤ 4096 ∧ ii = .int .i64 k ∧ fl = .bool (anyN k (bmP b dt q)) ∧ SatL wr (SlB 5 (.slice (some ⟨NB, 0, none⟩) 512 512) (bitsN 512 (upto (bmP b dt q) k)) :: PutsR u10 ps :: cl SB 98 (planCells b i tb dt) :: cl w.heap.size 28 #[.int .u32 sec, .int .u32 nsec] :: L)) (fun _ ii _ => 4096 - (intOf ii).toNat)
          case atStart => exact ⟨0, by omega, rfl, rfl, hs10⟩
          case round =>
            obtain ⟨k, hk, rfl, rfl, hs11⟩ := hrel
            clear hs10
            by_cases hk4 : k < 4096
            · have c5 : wr.cell? ⟨SB, 5, none⟩ = some (.int .i64 69) := (hs11.pull 2 : SatL _ (cl _ _ _ :: _)).cell (i := 5) rfl
              have c7 : wr.cell? ⟨SB, 7, none⟩ = some (.int .i64 dt) := (hs11.pull 2 : SatL _ (cl _ _ _ :: _)).cell (i := 7) rfl
              have hq69 : ((69 + q : Nat) : Int) - 69 = (q : Int) := by omega
              have Han := hid (anyN_succ k (bmP b dt q))
              by_cases hc : q * 4096 + k ≤ dt ∨ b ≤ q * 4096 + k
              · have hb1 : bmP b dt q k = true := by unfold bmP; rcases hc with h | h <;> simp [h]
                have Hu := hid (upto_yes (n := 512) hb1)
                have Hb1 := hid hb1
                clear hb1
                go_wp2_with (go_at_call 39; (refine (set_ok (by omega) (by omega) hs11).mono ?_); rintro e w7 ⟨v, rfl, rfl, hs12⟩)
                all_goals
                  rw [Hu.out] at hs12
                  go_roundw
                  case rel => exact ⟨k + 1, by omega, by go_num, by rw [Han.out, Hb1.out, Bool.or_true], hs12⟩
                  case measure => simp [intOf]; omega
              · have hb1 : bmP b dt q k = false := by unfold bmP; simp; omega
                have Hu := hid (upto_no (n := 512) hb1)
                have Hb1 := hid hb1
                have hc2 : ¬ (q * 4096 + k ≤ dt) := by omega
                have hc3 : ¬ (b ≤ q * 4096 + k) := by omega
                clear hb1 hc
                go_wp2
                rw [Hu.out] at hs11
                go_roundw
                case rel => exact ⟨k + 1, by omega, by go_num, by rw [Han.out, Hb1.out, Bool.or_false], hs11⟩
                case measure => simp [intOf]; omega
            · obtain rfl : k = 4096 := by omega
              rw [upto_all (by omega)] at hs11
              have Hbs := hid (bmList_succ b dt q)
              cases hany : anyN 4096 (bmP b dt q) with
              | true =>
                have Hany := hid hany
                clear hany
                have hK := sat_PutsR.1 (hs11.pull 1 : SatL _ (PutsR _ _ :: _))
                have hone : ∀ y ∈ (#[Value.int .i64 ((69 + q : Nat) : Int), .slice (some ⟨NB, 0, none⟩) 512 512] : Array Value).toList, y.oneCell' = true := by simp [Value.oneCell']
                have b1 : (ps.length + 1) * 32 ≤ 140737488355328 := by omega
                go_wp2_with (at_builtin; refine wpList_pushK_sl rfl rfl (.tmp 88) (.tmp 92) rfl elem_put b32 rfl hK rfl rfl hone b1 ?_; intro v8 w8 h8; have hs13 := PutsL.snoc (SatL.bring h8 [0, 1, 2]))
                go_roundw
                case rel =>
                  refine ⟨q + 1, _, by omega, by simp only [Value.int.injEq, true_and]; omega, ?_, hs13⟩
                  rw [List.map_append, Hps.out, Hbs.out, Hany.out]; simp
                case measure => simp [intOf]; omega
              | false =>
                have Hany := hid hany
                clear hany
                go_wp2
                go_roundw
                case rel =>
                  refine ⟨q + 1, ps, by omega, by simp only [Value.int.injEq, true_and]; omega, ?_, hs11.tail⟩
                  rw [Hps.out, Hbs.out, Hany.out]; simp
                case measure => simp [intOf]; omega
        · have htq : tb = q + 69 := by omega
          subst htq
          have t0 : True := trivial
          go_wp2_with (first
            | (have _t := t0; go_at_call 40; (refine (noughts_ok (n := 128) (bs := []) (by omega) (Nat.zero_le _) (Sl_nil (T := 5) hs8)).mono ?_); rintro e w9 ⟨v9, rfl, hs9⟩; clear t0; have t1 : True := trivial; obtain ⟨a9, c9, rfl, _, _⟩ := Sl.valn hs9 (m := 128) z128_len; have cs := fun k v (h : (planCells b i (q + 69) dt)[k]? = some v) => SatL.cell (SatL.pull hs9 2 : SatL w9 (cl SB _ _ :: _)) h; have s0 := cs 0 _ rfl; have s1 := cs 1 _ rfl; have s2 := cs 2 _ rfl; have s3 := cs 3 _ rfl; have s4 := cs 4 _ rfl; have s5 := cs 5 _ rfl; have s6 := cs 6 _ rfl; have s7 := cs 7 _ rfl; have u0 : w9.cell? ⟨w.heap.size, 0, none⟩ = some (.int .u32 sec) := (SatL.pull hs9 3 : SatL w9 (cl _ _ _ :: _)).cell (i := 0) rfl; have u1 : w9.cell? ⟨w.heap.size, 1, none⟩ = some (.int .u32 nsec) := (SatL.pull hs9 3 : SatL w9 (cl _ _ _ :: _)).cell (i := 1) rfl; clear cs)
            | (go_at_call 41; (refine (rootc_ok (tb := q + 69) (by omega) hse hns hs9).mono ?_); rintro e w10 ⟨v10, rfl, hs10⟩; obtain ⟨a10, c10, rfl, _, _⟩ := Sl.valn hs10 (m := 128) (by rw [bvs_len, rootB_len]); clear s0 s1 s2 s3 s4 s5 s6 s7 u0 u1)
            | (have _t := t1; at_builtin; refine wpList_append_sl rfl (.tmp 95) (.tmp 98) rfl elem_byte rfl (Sl.toK (SatL.swap hs10) z128_len) rfl (SrcOk.ofK elem_byte.under (Sl.toK hs10 (by rw [bvs_len, rootB_len]))) (bvs_one _) (by omega) (by unfold maxLen; omega) ?_; intro v11 w11 h11 _; clear t1; have hs11 := SlB.app (Sl.ofK h11); obtain ⟨a11, c11, rfl, _, _⟩ := Sl.valn hs11 (m := 256) (zr_len _ _ _)))
          have hs12 : SatL w11.drew (SlB 5 (.slice a11 256 c11) (([] ++ List.replicate (Int.toNat 128) 0) ++ rootB dt sec nsec) :: PutsR u10 ps :: cl SB 98 (planCells b i (q + 69) dt) :: cl w.heap.size 28 #[.int .u32 sec, .int .u32 nsec] :: L) := sat_drew.2 (SatL.to hs11)
          have c6 : w11.drew.cell? ⟨SB, 6, none⟩ = some (.int .i64 ((q + 69 : Nat) : Int)) := (hs12.pull 2 : SatL _ (cl _ _ _ :: _)).cell (i := 6) rfl
          clear hs11 h11 hs10 hs9 hs8
          have t2 : True := trivial
          go_region_held3 (fun w' => w'.cell? ⟨SB, 6, none⟩ = some (.int .i64 ((q + 69 : Nat) : Int)))
            (first | exact c6 | exact m6 | go_keep)
            (first
              | (go_at_call 40; (refine (noughts_ok (n := 256) (by omega) (by have := zr_len dt sec nsec; rw [bvs_len] at this; omega) hs12).mono ?_); rintro e w12 ⟨v12, rfl, hs13⟩; obtain ⟨a12, c12, rfl, _, _⟩ := Sl.valn hs13 (m := 512) (zrz_len _ _ _); have hs14 := sat_PutsR.1 (SatL.pull hs13 1 : SatL w12 (PutsR _ _ :: _)); have c6 : w12.cell? ⟨SB, 6, none⟩ = some (.int .i64 ((q + 69 : Nat) : Int)) := (SatL.pull hs13 2 : SatL _ (cl _ _ _ :: _)).cell (i := 6) rfl; have m6 : (w12.alloc (.cells #[.int .i64 ((q + 69 : Nat) : Int), .slice a12 512 c12] 66)).cell? ⟨SB, 6, none⟩ = some (.int .i64 ((q + 69 : Nat) : Int)) := (SatL.pull (hs13.alloc (.cells #[.int .i64 ((q + 69 : Nat) : Int), .slice a12 512 c12] 66)) 3 : SatL _ (cl _ _ _ :: _)).cell (i := 6) rfl)
              | (refine step_pushK_sl rfl rfl (.tmp 100) (.tmp 106) rfl elem_put b32 rfl hs14 rfl rfl (by simp [Value.oneCell']) (by omega) ?_; intro v13 w13 h13; have hs15 := PutsL.snoc (SatL.bring h13 [0, 1, 2]); have c6 : w13.cell? ⟨SB, 6, none⟩ = some (.int .i64 ((q + 69 : Nat) : Int)) := (SatL.pull hs15 1 : SatL _ (cl _ _ _ :: _)).cell (i := 6) rfl))
          clear hs12
          clear c6 h13
          have t3 : True := trivial
          go_wp2_with (first
            | (have _t := t3; go_at_call 42; (refine (entry1_ok hs15).mono ?_); rintro e w14 ⟨v14, rfl, hs16⟩; clear t3; obtain ⟨a14, c14, rfl, _, _⟩ := Sl.valn hs16 (m := 32) (by rw [bvs_len, entryB_len1]))
            | (go_at_call 42; (refine (entry2_ok hs16).mono ?_); rintro e w15 ⟨v15, rfl, hs17⟩; obtain ⟨a15, c15, rfl, _, _⟩ := Sl.valn hs17 (m := 32) (by rw [bvs_len, entryB_len2]))
            | (at_builtin; refine wpList_append_sl rfl (.tmp 108) (.tmp 109) rfl elem_byte rfl (Sl.toK (SatL.swap hs17) (by rw [bvs_len, entryB_len1])) rfl (SrcOk.ofK elem_byte.under (Sl.toK hs17 (by rw [bvs_len, entryB_len2]))) (bvs_one _) (by omega) (by unfold maxLen; omega) ?_; intro v16 w16 h16 _; have hs18 := SlB.app (Sl.ofK h16); obtain ⟨a16, c16, rfl, _, _⟩ := Sl.valn hs18 (m := 64) ee_len))
          have hs19 : SatL w16.drew (SlB 5 (.slice a16 64 c16) (entryB [46] ++ entryB [46, 46]) :: PutsR v13 _ :: cl SB 98 (planCells b i (q + 69) dt) :: cl w.heap.size 28 #[.int .u32 sec, .int .u32 nsec] :: L) := sat_drew.2 (SatL.tail (SatL.bring hs18 [1]))
          have c7 : w16.drew.cell? ⟨SB, 7, none⟩ = some (.int .i64 dt) := (hs19.pull 2 : SatL _ (cl _ _ _ :: _)).cell (i := 7) rfl
          have hpl2 : (ps ++ [⟨((q : Int) + 69), Value.slice a12 512 c12, (([] ++ List.replicate (Int.toNat 128) 0) ++ rootB dt sec nsec) ++ List.replicate (Int.toNat 256) 0⟩] : List Pt).length = ps.length + 1 := by rw [List.length_append]; rfl
          clear hs18 h16 hs17 hs16 hs15
          go_region_held3 (fun w' => w'.cell? ⟨SB, 7, none⟩ = some (.int .i64 dt))
            (first | exact c7 | exact m7 | go_keep)
            (first
              | (go_at_call 40; (refine (noughts_ok (n := 448) (by omega) (by have := ee_len; rw [bvs_len] at this; omega) hs19).mono ?_); rintro e w17 ⟨v17, rfl, hs20⟩; obtain ⟨a17, c17, rfl, _, _⟩ := Sl.valn hs20 (m := 512) dir_len; have hs21 := sat_PutsR.1 (SatL.pull hs20 1 : SatL w17 (PutsR _ _ :: _)); have c7 : w17.cell? ⟨SB, 7, none⟩ = some (.int .i64 dt) := (SatL.pull hs20 2 : SatL _ (cl _ _ _ :: _)).cell (i := 7) rfl; have m7 : (w17.alloc (.cells #[.int .i64 dt, .slice a17 512 c17] 66)).cell? ⟨SB, 7, none⟩ = some (.int .i64 dt) := (SatL.pull (hs20.alloc (.cells #[.int .i64 dt, .slice a17 512 c17] 66)) 3 : SatL _ (cl _ _ _ :: _)).cell (i := 7) rfl)
              | (refine step_pushK_sl rfl rfl (.tmp 111) (.tmp 117) rfl elem_put b32 rfl hs21 rfl rfl (by simp [Value.oneCell']) (by omega) ?_; intro v18 w18 h18; have hs22 := PutsL.snoc (SatL.bring h18 [0, 1, 2]); have c7 : w18.cell? ⟨SB, 7, none⟩ = some (.int .i64 dt) := (SatL.pull hs22 1 : SatL _ (cl _ _ _ :: _)).cell (i := 7) rfl))
          clear hs19 c7 h18
          go_wp2
          go_ret2
          have hs23 := SatL.tail (SatL.tail (SatL.bring hs22 [1, 2, 0]))
          refine Ret.mk ⟨v18, rfl, sat_PutsL.2 ⟨_, ?_, hs23⟩⟩
          have hq : ((q : Int) + 69) = ((q + 69 : Nat) : Int) := by omega
          have hq2 : q + 69 - 69 = q := by omega
          simp only [List.map_append, List.map_cons, List.map_nil]
          rw [Hps.out, hq, hq2]
          simp only [List.append_assoc]
          rfl
end
end Go.Proofs.Ytklnlomleiebaaa
