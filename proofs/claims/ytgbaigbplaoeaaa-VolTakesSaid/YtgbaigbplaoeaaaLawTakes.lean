/- VolTakes: for every input it returns true and writes nothing that was there. No condition. -/
import Derived.Test.YtgbaigbplaoeaaaVolE
import Derived.Test.YtgbaigbplaoeaaaKnown9
import Derived.Test.YtgbaigbplaoeaaaWithin9
import Derived.Test.YtgbaigbplaoeaaaBools
import Derived.Test.YtgbaigbplaoeaaaArg
namespace Go.Proofs.Ytgbaigbplaoeaaa
set_option linter.unusedVariables false
set_option linter.unusedSimpArgs false
open Go.RowKit

def upTo (n : Nat) (u : Nat → Bool) : Nat → Bool := fun j => u j || decide (n ≤ j)
theorem upTo_in {n j : Nat} {u : Nat → Bool} (h : j < n) : upTo n u j = u j := by unfold upTo; have : ¬ n ≤ j := by omega
                                                                                  simp [this]
theorem upTo_set {n k : Nat} {u : Nat → Bool} : (fun j => upTo n u j || j == k) = upTo n (fun t => if t = k then true else u t) := by
  funext j
  unfold upTo
  by_cases h : j = k
  · simp [h]
  · simp [h]
theorem upTo_unset {n k : Nat} {u : Nat → Bool} (hk : k < n) : (fun j => upTo n u j && !(j == k)) = upTo n (fun t => if t = k then false else u t) := by
  funext j
  unfold upTo
  by_cases h : j = k
  · subst h
    have : ¬ n ≤ j := by omega
    simp [this]
  · simp [h]
theorem upTo_back {n k : Nat} {u : Nat → Bool} (hk : k < n) (hu : u k = false) : (fun t => (upTo n u t || t == k) && !(t == k)) = upTo n u := by
  funext j
  by_cases h : j = k
  · subst h; rw [upTo_in hk, hu]; simp
  · have : (j == k) = false := by simpa using h
    rw [this, Bool.or_false, Bool.not_false, Bool.and_true]
theorem nfree_upTo {n : Nat} {u : Nat → Bool} {m : Nat} (h : n ≤ m) : nfree (upTo n u) m = nfree u n := by
  rw [nfree_none h (fun j h1 h2 => by unfold upTo; simp [h1])]
  exact nfree_congr fun j hj => upTo_in hj

abbrev CallsRow (w : World) (a : Option Addr) (n : Nat) (K N : Nat → Int) (B : Nat → Nat) : Prop := IsRow w 3 a n (fun i => [.int .i64 (K i), .int .i64 (N i), .int .u8 (B i : Int)])
section
variable {w : World} {L : List HP}
theorem over_vol {mb b i : Nat} (hg : planGood b i) (he : planErr b i = 0) (h : SatL w (BaseR mb (mkRows b i 0 0) (List.replicate b false) :: L)) :
    Calls Try.prog 16 #[.pointer (some ⟨mb, 0, none⟩)] w (Ret fun v w' => ∃ vb, v = .pointer (some ⟨vb, 0, none⟩) ∧ SatL w' (VolR vb b i (usedP b (dataN b i)) (imP i) :: L)) := by
  have ho := over_ok (mb := mb) (i := i) (rows := mkRows b i 0 0) (L := L) (w := w) (by rw [mkRows_len]; exact h) (by rw [mkRows_len]; exact mkRows_0 hg he) (by rw [mkRows_len]; exact hg) (by rw [mkRows_len]; exact he)
  simp only [mkRows_len] at ho
  refine ho.mono ?_
  rintro e w1 ⟨v, rfl, vb, rfl, hs⟩
  exact ⟨_, rfl, vb, rfl, sat_VolR.2 ⟨_, ⟨(fun k d h => by cases h), fun k hk => viewAt_bm hg he k hk, viewAt_im hg he⟩, hs⟩⟩
end

section
variable {w : World} {L : List HP} {vb b i : Nat} {u v : Nat → Bool}
theorem takeB_u {m : Nat} (hg : planGood b i) (he : planErr b i = 0) (h : SatL w (VolR vb b i (upTo b u) (upTo i v) :: L)) (hm : m < b) (h1 : ∀ j, j < m → u j = true) (h2 : u m = false) :
    Calls Try.prog 18 #[.pointer (some ⟨vb, 0, none⟩)] w (Ret fun r w' => r = .tuple #[.int .i64 m, .nilIface] ∧ SatL w' (VolR vb b i (upTo b (fun t => if t = m then true else u t)) (upTo i v) :: L)) := by
  obtain ⟨n1, n2, n3, n4, n5, n6⟩ := VolR.nat hg he
  have := volTakeB (u := m) hg he h (by omega) (by rw [upTo_in hm]; exact h2) (fun j hj => by rw [upTo_in (by omega)]; exact h1 j hj)
  rwa [upTo_set] at this
theorem takeB_uf (hg : planGood b i) (he : planErr b i = 0) (h : SatL w (VolR vb b i (upTo b u) (upTo i v) :: L)) (h1 : ∀ j, j < b → u j = true) :
    Calls Try.prog 18 #[.pointer (some ⟨vb, 0, none⟩)] w (Ret fun r w' => r = .tuple #[.int .i64 0, errno 7] ∧ SatL w' (VolR vb b i (upTo b u) (upTo i v) :: L)) :=
  volTakeB_full hg he h (fun j _ => by
    by_cases hj : j < b
    · rw [upTo_in hj]; exact h1 j hj
    · unfold upTo; simp; right; omega)
theorem takeI_u {m : Nat} (hg : planGood b i) (he : planErr b i = 0) (h : SatL w (VolR vb b i (upTo b u) (upTo i v) :: L)) (hm : m < i) (h1 : ∀ j, j < m → v j = true) (h2 : v m = false) :
    Calls Try.prog 20 #[.pointer (some ⟨vb, 0, none⟩)] w (Ret fun r w' => r = .tuple #[.int .i64 m, .nilIface] ∧ SatL w' (VolR vb b i (upTo b u) (upTo i (fun t => if t = m then true else v t)) :: L)) := by
  obtain ⟨n1, n2, n3, n4, n5, n6⟩ := VolR.nat hg he
  have := volTakeI (u := m) hg he h (by omega) (by rw [upTo_in hm]; exact h2) (fun j hj => by rw [upTo_in (by omega)]; exact h1 j hj)
  rwa [upTo_set] at this
theorem takeI_uf (hg : planGood b i) (he : planErr b i = 0) (h : SatL w (VolR vb b i (upTo b u) (upTo i v) :: L)) (h1 : ∀ j, j < i → v j = true) :
    Calls Try.prog 20 #[.pointer (some ⟨vb, 0, none⟩)] w (Ret fun r w' => r = .tuple #[.int .i64 0, errno 7] ∧ SatL w' (VolR vb b i (upTo b u) (upTo i v) :: L)) :=
  volTakeI_full hg he h (fun j _ => by
    by_cases hj : j < i
    · rw [upTo_in hj]; exact h1 j hj
    · unfold upTo; simp; right; omega)
theorem giveB_u {j : Nat} (hg : planGood b i) (he : planErr b i = 0) (h : SatL w (VolR vb b i (upTo b u) (upTo i v) :: L)) (hd : dataN b i ≤ j) (hj : j < b) (h2 : u j = true) :
    Calls Try.prog 19 #[.pointer (some ⟨vb, 0, none⟩), .int .i64 j] w (Ret fun r w' => r = .nilIface ∧ SatL w' (VolR vb b i (upTo b (fun t => if t = j then false else u t)) (upTo i v) :: L)) := by
  have := volGiveB hg he h hd hj (by rw [upTo_in hj]; exact h2)
  rwa [upTo_unset hj] at this
theorem giveI_u {j : Nat} (hg : planGood b i) (he : planErr b i = 0) (h : SatL w (VolR vb b i (upTo b u) (upTo i v) :: L)) (hd : 2 ≤ j) (hj : j < i) (h2 : v j = true) :
    Calls Try.prog 22 #[.pointer (some ⟨vb, 0, none⟩), .int .i64 j] w (Ret fun r w' => r = .nilIface ∧ SatL w' (VolR vb b i (upTo b u) (upTo i (fun t => if t = j then false else v t)) :: L)) := by
  have := volGiveI hg he h hd hj (by rw [upTo_in hj]; exact h2)
  rwa [upTo_unset hj] at this
/-- a block that was just taken goes back -/
theorem giveB_back {m : Nat} (hg : planGood b i) (he : planErr b i = 0) (h : SatL w (VolR vb b i (upTo b (fun t => if t = m then true else u t)) (upTo i v) :: L)) (hd : dataN b i ≤ m) (hm : m < b) (h2 : u m = false) :
    Calls Try.prog 19 #[.pointer (some ⟨vb, 0, none⟩), .int .i64 m] w (Ret fun r w' => r = .nilIface ∧ SatL w' (VolR vb b i (upTo b u) (upTo i v) :: L)) := by
  have := giveB_u hg he h hd hm (by simp)
  have e : (fun t => if t = m then false else (if t = m then true else u t)) = u := by
    funext t
    by_cases h : t = m
    · subst h; simp [h2]
    · simp [h]
  rwa [e] at this
end


theorem bl_store {w : World} {L : List HP} {T b o c n m : Nat} {u : Nat → Bool} (x : Bool) (h : SatL w (Sl T (.slice (some ⟨b, o, none⟩) n c) (bl n u) :: L)) (hm : m < n) :
    SatL (w.setCell ⟨b, o + m, none⟩ (.bool x)) (Sl T (.slice (some ⟨b, o, none⟩) n c) (bl n (fun t => if t = m then x else u t)) :: L) := by
  have := Sl.set h (i := m) (by rw [bl_len]; exact hm) (.bool x)
  rwa [bl_set] at this
def TakesRel (w wr : World) (vb b i ub uo uc hb ho hc k : Nat) : Prop := ∃ u v : Nat → Bool, SatL wr (VolR vb b i (upTo b u) (upTo i v) :: Sl 4 (.slice (some ⟨ub, uo, none⟩) b uc) (bl b u) :: Sl 4 (.slice (some ⟨hb, ho, none⟩) i hc) (bl i v) :: [old w])

set_option maxRecDepth 100000 in
set_option maxHeartbeats 16000000 in
theorem takes_walk (a0 a1 : Int) (a2 : Option Addr) (l2 c2 : Nat) (K N : Nat → Int) (B : Nat → Nat) (w : World) (hC : CallsRow w a2 l2 K N B) :
    Calls Try.prog 4 #[.int .i64 a0, .int .i64 a1, .slice a2 l2 c2] w (Ret fun v w' => v = .bool true ∧ SatL w' [old w]) := by
  have hk := known_ok (sat_old w)
  obtain ⟨hl2, hC⟩ := hC
  obtain ⟨b0, hb0, hw0⟩ := within_nat a0 400 (by omega)
  obtain ⟨i0, hi0, hw1⟩ := within_nat a1 10 (by omega)
  obtain ⟨b, hb⟩ : ∃ b : Nat, (128 : Int) + b0 = b := ⟨128 + b0, by omega⟩
  obtain ⟨i, hi⟩ : ∃ i : Nat, (8 : Int) + 4 * i0 = i := ⟨8 + 4 * i0, by omega⟩
  have hg : planGood b i := by unfold planGood; omega
  have he : planErr b i = 0 := by
    unfold planErr
    rw [if_pos hg, if_neg]
    unfold dataOf tableOf
    omega
  have Hg := hid hg
  have He := hid he
  obtain ⟨n1, n2, n3, n4, n5, n6⟩ := VolR.nat hg he
  have hT : tableN b = 70 := by unfold tableN; omega
  have hmd := fun (w1 : World) (h : SatL w1 [old w]) => made_ok (sec := 0) (nsec := 0) hg he (by omega) (by omega) h
  have hov := fun (w1 : World) (mb : Nat) (h : SatL w1 (BaseR mb (mkRows b i 0 0) (List.replicate b false) :: [old w])) => over_vol hg he h
  have hsu := fun (w1 : World) (vb : Nat) (U V : Nat → Bool) (L : List HP) (h : SatL w1 (VolR vb b i U V :: L)) => volSuper h
  simp only [planV] at hsu
  rw [show ((0 : Nat) : Int) = 0 from rfl] at hmd
  clear hg he
  generalize hD : dataN b i = dt at *
  have HD := hid hD
  have HT := hid hT
  clear hD
  rw [hT] at n1 n2 n4 hsu
  clear hT
  generalize mkRows b i 0 0 = rows0 at *
  have hf0 : ∀ w : World, (Instr.field 30 (.agg #[.int .i64 b, .int .i64 i, .int .i64 1, .int .i64 2, .int .i64 68, .int .i64 69, .int .i64 (70 : Nat), .int .i64 dt]) 0).run Try.prog w = .ok (.int .i64 b) w := fun w => by kernel_rfl
  have hf7 : ∀ w : World, (Instr.field 30 (.agg #[.int .i64 b, .int .i64 i, .int .i64 1, .int .i64 2, .int .i64 68, .int .i64 69, .int .i64 (70 : Nat), .int .i64 dt]) 7).run Try.prog w = .ok (.int .i64 dt) w := fun w => by kernel_rfl
  rw [show ((70 : Nat) : Int) = 70 from rfl] at hf0 hf7
  simp only [show ((70 : Nat) : Int) = 70 from rfl] at hsu
  have b8 : 0 < 1 := by omega
  have t0 : True := trivial
  have s0 : True := trivial
  go_enter Try.func4, Try.ntmps4
  go_wp2_with (first
    | (go_at_call 8; (with_reducible refine hk.mono ?_); rintro e w1 ⟨v, rfl, rfl, hs1⟩)
    | (have _t := t0; go_at_call 14; (with_reducible refine (hw0 _).mono ?_); rintro e w2 ⟨rfl, rfl⟩; clear t0)
    | (go_at_call 14; (with_reducible refine (hw1 _).mono ?_); rintro e w2 ⟨rfl, rfl⟩)
    | (go_at_call 15; (with_reducible refine (hmd _ hs1).mono ?_); rintro e w3 ⟨v, rfl, mb, rfl, hs3⟩)
    | (go_at_call 16; (with_reducible refine (hov _ _ hs3).mono ?_); rintro e w4 ⟨v, rfl, vb, rfl, hs4⟩)
    | (have _t := s0; go_at_call 17; (with_reducible refine (hsu _ _ _ _ _ hs4).mono ?_); rintro e w5 ⟨v, rfl, rfl, hs5⟩; clear s0)
    | (go_at_call 17; (with_reducible refine (hsu _ _ _ _ _ hs5).mono ?_); rintro e w6 ⟨v, rfl, rfl, hs6⟩; have s1 : True := trivial)
    | (have _t := s1; refine wpList_make_sl rfl (.tmp 58) (.tmp 58) rfl elem_bool b rfl rfl hs6 (by omega) (by omega) ?_; intro w7 hs7; clear s1)
    | (refine wpList_make_sl rfl (.tmp 60) (.tmp 60) rfl elem_bool i rfl rfl hs7 (by omega) (by omega) ?_; intro w8 hs8))
  rw [bl_zero, bl_zero] at hs8
  have h9 := hs8.bring [2, 1, 0]
  have hm0 : (imP i) = upTo i (fun j => decide (j < 2)) := rfl
  rw [hm0] at h9
  generalize w6.heap.size = ub at *
  generalize w7.heap.size = hb0' at *
  clear hs1 hs3 hs4 hs5 hs6 hs7 hs8 hm0 hmd hov hsu hf0 hf7 hw0 hw1 hk
  go_loopw [12] (fun jj wr => ∃ k : Nat, k ≤ dt + 1 ∧ jj = .int .i64 k ∧ SatL wr (VolR vb b i (usedP b dt) (upTo i (fun j => decide (j < 2))) :: Sl 4 (.slice (some ⟨ub, 0, none⟩) b b) (bl b (fun j => decide (j < k))) :: Sl 4 (.slice (some ⟨hb0', 0, none⟩) i i) (bl i (fun _ => false)) :: [old w])) (fun jj _ => dt + 1 - (intOf jj).toNat)
  case atStart => exact ⟨0, by omega, rfl, h9⟩
  case round =>
    clear h9
    obtain ⟨k, hk, rfl, hs⟩ := hrel
    by_cases hkd : k ≤ dt
    · have q1 := Sl.cell (hs.pull 1 : SatL _ (Sl _ _ _ :: _)) (i := k) (bl_get (by omega))
      have f1 := Sl.free (hs.pull 1 : SatL _ (Sl _ _ _ :: _)) (0 + k)
      have st := hid (bl_store true (hs.pull 1 : SatL _ (Sl _ _ _ :: _)) (m := k) (by omega))
      have z1 : (0 : Int) ≤ k := by omega
      have z2 : (k : Int) < b := by omega
      rw [Nat.zero_add] at q1 f1
      go_wp2
      go_roundw
      case rel =>
        have h2 := st.out
        rw [Nat.zero_add] at h2
        rw [bl_congr (v := fun j => decide (j < k + 1)) (fun j _ => by by_cases h : j = k <;> simp [h] <;> omega)] at h2
        exact ⟨k + 1, by omega, by go_num, h2.swap⟩
      case measure => simp [intOf]; omega
    · have HK := hid (show k = dt + 1 by omega)
      have st1 := hid (bl_store true (hs.pull 2 : SatL _ (Sl _ _ _ :: _)) (m := 0) (by omega))
      have st2 := hid (bl_store true st1.out (m := 1) (by omega))
      have q1 := Sl.cell (hs.pull 2 : SatL _ (Sl _ _ _ :: _)) (i := 0) (bl_get (by omega))
      have f1 := Sl.free (hs.pull 2 : SatL _ (Sl _ _ _ :: _)) 0
      have q2 := Sl.cell st1.out (i := 1) (bl_get (by omega))
      have f2 := Sl.free st1.out 1
      rw [Nat.zero_add] at q1 q2
      have z1 : (1 : Int) < i := by omega
      have z2 : (0 : Int) < i := by omega
      go_wp2
      clear hkd
      generalize hk9 : k = kq at *
      clear hk9
      have h0 := st2.out
      have c0 : ∀ j, (if j = 1 then true else if j = 0 then true else false) = decide (j < 2) := fun j => by
        by_cases h1 : j = 1
        · subst h1; rfl
        · by_cases h0 : j = 0
          · subst h0; rfl
          · simp [h1, h0]; omega
      rw [bl_congr (fun j _ => c0 j)] at h0
      have hu0 : usedP b dt = upTo b (fun j => decide (j < kq)) := by
        rw [HK.out]
        funext j
        unfold usedP upTo
        congr 1
        simp [Nat.lt_succ_iff]
      rw [hu0] at h0
      simp only [Nat.zero_add] at h0
      generalize hb0' = hb1 at *
      clear c0 hu0 st1 st2 q1 f1 q2 f2 z1 z2 hs
      have hrel0 : ∃ u v : Nat → Bool, (∀ j, j < dt → u j = true) ∧ SatL ((wr.setCell ⟨hb1, 0, none⟩ (.bool true)).setCell ⟨hb1, 1, none⟩ (.bool true)) (VolR vb b i (upTo b u) (upTo i v) :: Sl 4 (.slice (some ⟨ub, 0, none⟩) b b) (bl b u) :: Sl 4 (.slice (some ⟨hb1, 0, none⟩) i i) (bl i v) :: [old w]) :=
        ⟨_, _, fun j hj => by rw [HK.out]; simp; omega, h0.bring [1, 2]⟩
      clear h0 HK
      generalize ((wr.setCell ⟨hb1, 0, none⟩ (.bool true)).setCell ⟨hb1, 1, none⟩ (.bool true)) = wX at *
      go_loopw [13] (fun jj wr => ∃ k : Nat, k ≤ l2 ∧ k ≤ 200 ∧ jj = .int .i64 k ∧ ∃ u v : Nat → Bool, (∀ j, j < dt → u j = true) ∧ SatL wr (VolR vb b i (upTo b u) (upTo i v) :: Sl 4 (.slice (some ⟨ub, 0, none⟩) b b) (bl b u) :: Sl 4 (.slice (some ⟨hb1, 0, none⟩) i i) (bl i v) :: [old w])) (fun jj _ => 200 - (intOf jj).toNat)
      case atStart =>
        exact ⟨0, by omega, by omega, rfl, hrel0⟩
      case round =>
        clear hrel0
        obtain ⟨k, hk2, hk200, rfl, u, v, hdu, hs⟩ := hrel
        by_cases hgo : k < l2 ∧ k < 200
        · obtain ⟨j2, j200⟩ := hgo
          obtain ⟨cb, co, rfl, hcc⟩ := hC (by omega)
          have ca0 := SatL.oldCell (hs.pull 3 : SatL _ (old w :: _)) ((hcc k j2).2 0 _ rfl)
          have ca1 := SatL.oldCell (hs.pull 3 : SatL _ (old w :: _)) ((hcc k j2).2 1 _ rfl)
          have ca2 := SatL.oldCell (hs.pull 3 : SatL _ (old w :: _)) ((hcc k j2).2 2 _ rfl)
          rw [Nat.add_zero] at ca0
          generalize K k = KK at *
          generalize N k = NN at *
          have hA := (hs.alloc (.cells #[.int .i64 KK, .int .i64 NN, .int .u8 (B k : Int)] 49)).swap
          have hA : SatL (wr.alloc (.cells #[.int .i64 KK, .int .i64 NN, .int .u8 (B k : Int)] 49)) (VolR vb b i (upTo b u) (upTo i v) :: cl wr.heap.size 49 #[.int .i64 KK, .int .i64 NN, .int .u8 (B k : Int)] :: Sl 4 (.slice (some ⟨ub, 0, none⟩) b b) (bl b u) :: Sl 4 (.slice (some ⟨hb1, 0, none⟩) i i) (bl i v) :: [old w]) := hA
          have k200 : (k : Int) < 200 := by omega
          have kl2 : (k : Int) < l2 := by omega
          have Hdu := hid hdu
          clear hC hcc hs hdu
          obtain ⟨m, hm1, hm2, hm3⟩ := least u b
          obtain ⟨p, hp1, hp2, hp3⟩ := least v i
          have Hm2 := hid hm2
          have Hp2 := hid hp2
          have hIs7 := fun w => isN_ok (a := 7) (n := 7) (by omega) w
          have hIs1 := fun w => isN_ok (a := 1) (n := 1) (by omega) w
          have hIs2 := fun w => isN_ok (a := 2) (n := 2) (by omega) w
          clear hm2 hp2
          by_cases hk1 : KK = 1
          · subst hk1
            clear hp1 hp3 Hp2 hIs1 hIs2 p
            by_cases hmb : m < b
            · have hum := hm3 hmb
              have Hum := hid hum
              have hTk := fun (w1 : World) (L : List HP) (h : SatL w1 (VolR vb b i (upTo b u) (upTo i v) :: L)) => takeB_u Hg.out He.out h hmb Hm2.out Hum.out
              clear hum hm3
              as_aux_lemma =>
                go_wp2_with (go_at_call 18; (with_reducible refine (hTk _ _ hA).mono ?_); rintro e w2 ⟨r, rfl, rfl, hs2⟩; have d0 : w2.cell? ⟨wr.heap.size, 0, none⟩ = some (.int .i64 1) := (hs2.pull 1 : SatL _ (cl _ _ _ :: _)).cell (i := 0) rfl)
                go_loop [16] (fun ww => ∃ q : Nat, q ≤ m ∧ ww = .int .i64 q) (fun ww => m - (intOf ww).toNat)
                case atStart => exact ⟨0, by omega, rfl⟩
                case round =>
                  obtain ⟨q, hq, rfl⟩ := hrel
                  by_cases hqm : q < m
                  · have cq := Sl.cell (hs2.pull 2 : SatL _ (Sl _ _ _ :: _)) (i := q) (bl_get (by omega))
                    rw [Hm2.out q hqm, Nat.zero_add] at cq
                    have z1 : (0 : Int) ≤ q := by omega
                    have z2 : (q : Int) < b := by omega
                    go_wp2
                    go_round
                    case rel => exact ⟨q + 1, by omega, by go_num⟩
                    case measure => simp [intOf]; omega
                  · obtain rfl : q = m := by omega
                    have cq := Sl.cell (hs2.pull 2 : SatL _ (Sl _ _ _ :: _)) (i := q) (bl_get hmb)
                    have fq := Sl.free (hs2.pull 2 : SatL _ (Sl _ _ _ :: _)) (0 + q)
                    have st := hid (bl_store true (hs2.pull 2 : SatL _ (Sl _ _ _ :: _)) hmb)
                    rw [Hum.out, Nat.zero_add] at cq
                    rw [Nat.zero_add] at fq
                    have z1 : (0 : Int) ≤ q := by omega
                    have z2 : (q : Int) < b := by omega
                    go_wp2
                    go_roundw
                    case rel =>
                      have h2 := st.out
                      rw [Nat.zero_add] at h2
                      exact ⟨k + 1, by omega, by omega, by go_num, (fun t => if t = q then true else u t), v, (fun j hj => by show (if j = q then true else u j) = true; by_cases e : j = q; (rw [if_pos e]); (rw [if_neg e]; exact Hdu.out j hj)), h2.to⟩
                    case measure => simp [intOf]; omega
            · obtain rfl : b = m := by omega
              have hTk := fun (w1 : World) (L : List HP) (h : SatL w1 (VolR vb b i (upTo b u) (upTo i v) :: L)) => takeB_uf Hg.out He.out h Hm2.out
              clear hm3
              as_aux_lemma =>
                go_wp2_with (go_at_call 18; (with_reducible refine (hTk _ _ hA).mono ?_); rintro e w2 ⟨r, rfl, rfl, hs2⟩; have d0 : w2.cell? ⟨wr.heap.size, 0, none⟩ = some (.int .i64 1) := (hs2.pull 1 : SatL _ (cl _ _ _ :: _)).cell (i := 0) rfl)
                go_loop [16] (fun ww => ∃ q : Nat, q ≤ b ∧ ww = .int .i64 q) (fun ww => b - (intOf ww).toNat)
                case atStart => exact ⟨0, by omega, rfl⟩
                case round =>
                  obtain ⟨q, hq, rfl⟩ := hrel
                  by_cases hqm : q < b
                  · have cq := Sl.cell (hs2.pull 2 : SatL _ (Sl _ _ _ :: _)) (i := q) (bl_get (by omega))
                    rw [Hm2.out q hqm, Nat.zero_add] at cq
                    have z1 : (0 : Int) ≤ q := by omega
                    have z2 : (q : Int) < b := by omega
                    go_wp2
                    go_round
                    case rel => exact ⟨q + 1, by omega, by go_num⟩
                    case measure => simp [intOf]; omega
                  · obtain rfl : q = b := by omega
                    go_wp2_with (go_at_call 21; (with_reducible refine (hIs7 _).mono ?_); rintro e w3 ⟨rfl, rfl⟩)
                    go_roundw
                    case rel => exact ⟨k + 1, by omega, by omega, by go_num, u, v, Hdu.out, hs2.to⟩
                    case measure => simp [intOf]; omega
          · by_cases hk3 : KK = 3
            · subst hk3
              clear hk1
              clear hIs1 hIs2
              by_cases hmb : m < b
              · by_cases hpi : p < i
                · as_aux_lemma =>
                    have hum := hm3 hmb
                    have hdm : dataN b i ≤ m := by
                      rw [HD.out]
                      by_cases h : m < dt
                      · have := Hdu.out m h; rw [hum] at this; cases this
                      · omega
                    have Hum := hid hum
                    have hTk := fun (w1 : World) (L : List HP) (h : SatL w1 (VolR vb b i (upTo b u) (upTo i v) :: L)) => takeB_u Hg.out He.out h hmb Hm2.out Hum.out
                    have hGk := fun (w1 : World) (L : List HP) (h : SatL w1 (VolR vb b i (upTo b (fun t => if t = m then true else u t)) (upTo i v) :: L)) => giveB_back Hg.out He.out h hdm hmb Hum.out
                    clear hum hm3 hdm
                    have hvp := hp3 hpi
                    have Hvp := hid hvp
                    have hTi := fun (w1 : World) (L : List HP) (h : SatL w1 (VolR vb b i (upTo b u) (upTo i v) :: L)) => takeI_u Hg.out He.out h hpi Hp2.out Hvp.out
                    clear hvp hp3
                    go_wp2_with (first
                      | (go_at_call 18; (with_reducible refine (hTk _ _ hA).mono ?_); rintro e w2 ⟨r, rfl, rfl, hs2⟩; have d0 : w2.cell? ⟨wr.heap.size, 0, none⟩ = some (.int .i64 3) := (hs2.pull 1 : SatL _ (cl _ _ _ :: _)).cell (i := 0) rfl)
                      | (go_at_call 19; (with_reducible refine (hGk _ _ hs2).mono ?_); rintro e w3 ⟨r, rfl, rfl, hs3⟩)
                      | (go_at_call 20; (with_reducible refine (hTi _ _ hs3).mono ?_); rintro e w4 ⟨r, rfl, rfl, hs4⟩))
                    go_loop [16] (fun ww => ∃ q : Nat, q ≤ p ∧ ww = .int .i64 q) (fun ww => p - (intOf ww).toNat)
                    case atStart => exact ⟨0, by omega, rfl⟩
                    case round =>
                      obtain ⟨q, hq, rfl⟩ := hrel
                      by_cases hqm : q < p
                      · have cq := Sl.cell (hs4.pull 3 : SatL _ (Sl _ _ _ :: _)) (i := q) (bl_get (by omega))
                        rw [Hp2.out q hqm, Nat.zero_add] at cq
                        have z1 : (0 : Int) ≤ q := by omega
                        have z2 : (q : Int) < i := by omega
                        go_wp2
                        go_round
                        case rel => exact ⟨q + 1, by omega, by go_num⟩
                        case measure => simp [intOf]; omega
                      · obtain rfl : q = p := by omega
                        have cq := Sl.cell (hs4.pull 3 : SatL _ (Sl _ _ _ :: _)) (i := q) (bl_get hpi)
                        have fq := Sl.free (hs4.pull 3 : SatL _ (Sl _ _ _ :: _)) (0 + q)
                        have st := hid (bl_store true (hs4.pull 3 : SatL _ (Sl _ _ _ :: _)) hpi)
                        rw [Hvp.out, Nat.zero_add] at cq
                        rw [Nat.zero_add] at fq
                        have z1 : (0 : Int) ≤ q := by omega
                        have z2 : (q : Int) < i := by omega
                        go_wp2
                        go_roundw
                        case rel =>
                          have h2 := st.out
                          rw [Nat.zero_add] at h2
                          exact ⟨k + 1, by omega, by omega, by go_num, u, (fun t => if t = q then true else v t), Hdu.out, h2.to⟩
                        case measure => simp [intOf]; omega
                · as_aux_lemma =>
                    have hum := hm3 hmb
                    have hdm : dataN b i ≤ m := by
                      rw [HD.out]
                      by_cases h : m < dt
                      · have := Hdu.out m h; rw [hum] at this; cases this
                      · omega
                    have Hum := hid hum
                    have hTk := fun (w1 : World) (L : List HP) (h : SatL w1 (VolR vb b i (upTo b u) (upTo i v) :: L)) => takeB_u Hg.out He.out h hmb Hm2.out Hum.out
                    have hGk := fun (w1 : World) (L : List HP) (h : SatL w1 (VolR vb b i (upTo b (fun t => if t = m then true else u t)) (upTo i v) :: L)) => giveB_back Hg.out He.out h hdm hmb Hum.out
                    clear hum hm3 hdm
                    obtain rfl : i = p := by omega
                    have hTi := fun (w1 : World) (L : List HP) (h : SatL w1 (VolR vb b i (upTo b u) (upTo i v) :: L)) => takeI_uf Hg.out He.out h Hp2.out
                    clear hp3
                    go_wp2_with (first
                      | (go_at_call 18; (with_reducible refine (hTk _ _ hA).mono ?_); rintro e w2 ⟨r, rfl, rfl, hs2⟩; have d0 : w2.cell? ⟨wr.heap.size, 0, none⟩ = some (.int .i64 3) := (hs2.pull 1 : SatL _ (cl _ _ _ :: _)).cell (i := 0) rfl)
                      | (go_at_call 19; (with_reducible refine (hGk _ _ hs2).mono ?_); rintro e w3 ⟨r, rfl, rfl, hs3⟩)
                      | (go_at_call 20; (with_reducible refine (hTi _ _ hs3).mono ?_); rintro e w4 ⟨r, rfl, rfl, hs4⟩))
                    go_loop [16] (fun ww => ∃ q : Nat, q ≤ i ∧ ww = .int .i64 q) (fun ww => i - (intOf ww).toNat)
                    case atStart => exact ⟨0, by omega, rfl⟩
                    case round =>
                      obtain ⟨q, hq, rfl⟩ := hrel
                      by_cases hqm : q < i
                      · have cq := Sl.cell (hs4.pull 3 : SatL _ (Sl _ _ _ :: _)) (i := q) (bl_get (by omega))
                        rw [Hp2.out q hqm, Nat.zero_add] at cq
                        have z1 : (0 : Int) ≤ q := by omega
                        have z2 : (q : Int) < i := by omega
                        go_wp2
                        go_round
                        case rel => exact ⟨q + 1, by omega, by go_num⟩
                        case measure => simp [intOf]; omega
                      · obtain rfl : q = i := by omega
                        go_wp2_with (go_at_call 21; (with_reducible refine (hIs7 _).mono ?_); rintro e w3 ⟨rfl, rfl⟩)
                        go_roundw
                        case rel => exact ⟨k + 1, by omega, by omega, by go_num, u, v, Hdu.out, hs4.to⟩
                        case measure => simp [intOf]; omega
              · by_cases hpi : p < i
                · as_aux_lemma =>
                    obtain rfl : b = m := by omega
                    have hTk := fun (w1 : World) (L : List HP) (h : SatL w1 (VolR vb b i (upTo b u) (upTo i v) :: L)) => takeB_uf Hg.out He.out h Hm2.out
                    clear hm3
                    have hvp := hp3 hpi
                    have Hvp := hid hvp
                    have hTi := fun (w1 : World) (L : List HP) (h : SatL w1 (VolR vb b i (upTo b u) (upTo i v) :: L)) => takeI_u Hg.out He.out h hpi Hp2.out Hvp.out
                    clear hvp hp3
                    go_wp2_with (first
                      | (go_at_call 18; (with_reducible refine (hTk _ _ hA).mono ?_); rintro e w2 ⟨r, rfl, rfl, hs2⟩; have d0 : w2.cell? ⟨wr.heap.size, 0, none⟩ = some (.int .i64 3) := (hs2.pull 1 : SatL _ (cl _ _ _ :: _)).cell (i := 0) rfl)
                      | (go_at_call 20; (with_reducible refine (hTi _ _ hs2).mono ?_); rintro e w4 ⟨r, rfl, rfl, hs4⟩))
                    go_loop [16] (fun ww => ∃ q : Nat, q ≤ p ∧ ww = .int .i64 q) (fun ww => p - (intOf ww).toNat)
                    case atStart => exact ⟨0, by omega, rfl⟩
                    case round =>
                      obtain ⟨q, hq, rfl⟩ := hrel
                      by_cases hqm : q < p
                      · have cq := Sl.cell (hs4.pull 3 : SatL _ (Sl _ _ _ :: _)) (i := q) (bl_get (by omega))
                        rw [Hp2.out q hqm, Nat.zero_add] at cq
                        have z1 : (0 : Int) ≤ q := by omega
                        have z2 : (q : Int) < i := by omega
                        go_wp2
                        go_round
                        case rel => exact ⟨q + 1, by omega, by go_num⟩
                        case measure => simp [intOf]; omega
                      · obtain rfl : q = p := by omega
                        have cq := Sl.cell (hs4.pull 3 : SatL _ (Sl _ _ _ :: _)) (i := q) (bl_get hpi)
                        have fq := Sl.free (hs4.pull 3 : SatL _ (Sl _ _ _ :: _)) (0 + q)
                        have st := hid (bl_store true (hs4.pull 3 : SatL _ (Sl _ _ _ :: _)) hpi)
                        rw [Hvp.out, Nat.zero_add] at cq
                        rw [Nat.zero_add] at fq
                        have z1 : (0 : Int) ≤ q := by omega
                        have z2 : (q : Int) < i := by omega
                        go_wp2
                        go_roundw
                        case rel =>
                          have h2 := st.out
                          rw [Nat.zero_add] at h2
                          exact ⟨k + 1, by omega, by omega, by go_num, u, (fun t => if t = q then true else v t), Hdu.out, h2.to⟩
                        case measure => simp [intOf]; omega
                · as_aux_lemma =>
                    obtain rfl : b = m := by omega
                    have hTk := fun (w1 : World) (L : List HP) (h : SatL w1 (VolR vb b i (upTo b u) (upTo i v) :: L)) => takeB_uf Hg.out He.out h Hm2.out
                    clear hm3
                    obtain rfl : i = p := by omega
                    have hTi := fun (w1 : World) (L : List HP) (h : SatL w1 (VolR vb b i (upTo b u) (upTo i v) :: L)) => takeI_uf Hg.out He.out h Hp2.out
                    clear hp3
                    go_wp2_with (first
                      | (go_at_call 18; (with_reducible refine (hTk _ _ hA).mono ?_); rintro e w2 ⟨r, rfl, rfl, hs2⟩; have d0 : w2.cell? ⟨wr.heap.size, 0, none⟩ = some (.int .i64 3) := (hs2.pull 1 : SatL _ (cl _ _ _ :: _)).cell (i := 0) rfl)
                      | (go_at_call 20; (with_reducible refine (hTi _ _ hs2).mono ?_); rintro e w4 ⟨r, rfl, rfl, hs4⟩))
                    go_loop [16] (fun ww => ∃ q : Nat, q ≤ i ∧ ww = .int .i64 q) (fun ww => i - (intOf ww).toNat)
                    case atStart => exact ⟨0, by omega, rfl⟩
                    case round =>
                      obtain ⟨q, hq, rfl⟩ := hrel
                      by_cases hqm : q < i
                      · have cq := Sl.cell (hs4.pull 3 : SatL _ (Sl _ _ _ :: _)) (i := q) (bl_get (by omega))
                        rw [Hp2.out q hqm, Nat.zero_add] at cq
                        have z1 : (0 : Int) ≤ q := by omega
                        have z2 : (q : Int) < i := by omega
                        go_wp2
                        go_round
                        case rel => exact ⟨q + 1, by omega, by go_num⟩
                        case measure => simp [intOf]; omega
                      · obtain rfl : q = i := by omega
                        go_wp2_with (go_at_call 21; (with_reducible refine (hIs7 _).mono ?_); rintro e w3 ⟨rfl, rfl⟩)
                        go_roundw
                        case rel => exact ⟨k + 1, by omega, by omega, by go_num, u, v, Hdu.out, hs4.to⟩
                        case measure => simp [intOf]; omega
            · have q1 : (KK == 1) = false := by simpa using hk1
              have q3 : (KK == 3) = false := by simpa using hk3
              clear hm1 hm3 Hm2 hp1 hp3 Hp2 hIs7 m p hk1 hk3
              by_cases hk2 : KK = 2
              · subst hk2
                as_aux_lemma =>
                  by_cases hlo : (NN : Int) < dt
                  · have hG := fun (w1 : World) (L : List HP) (h : SatL w1 (VolR vb b i (upTo b u) (upTo i v) :: L)) => volGiveB_arg (j := NN) h (.inl (by rw [HD.out]; omega))
                    go_wp2_with (first
                      | (go_at_call 19; (with_reducible refine (hG _ _ hA).mono ?_); rintro e w2 ⟨r, rfl, rfl, hs2⟩; have d0 : w2.cell? ⟨wr.heap.size, 0, none⟩ = some (.int .i64 2) := (hs2.pull 1 : SatL _ (cl _ _ _ :: _)).cell (i := 0) rfl; have d1 : w2.cell? ⟨wr.heap.size, 1, none⟩ = some (.int .i64 NN) := (hs2.pull 1 : SatL _ (cl _ _ _ :: _)).cell (i := 1) rfl)
                      | (go_at_call 21; (with_reducible refine (hIs1 _).mono ?_); rintro e w3 ⟨rfl, rfl⟩))
                    go_roundw
                    case rel => exact ⟨k + 1, by omega, by omega, by go_num, u, v, Hdu.out, hs2.to⟩
                    case measure => simp [intOf]; omega
                  · by_cases hhi : (NN : Int) < b
                    · obtain ⟨j0, rfl⟩ : ∃ j0 : Nat, NN = j0 := ⟨NN.toNat, by omega⟩
                      have hj0 : j0 < b := by omega
                      have z1 : (0 : Int) ≤ j0 := by omega
                      cases hu : u j0 with
                      | false =>
                        have hG := fun (w1 : World) (L : List HP) (h : SatL w1 (VolR vb b i (upTo b u) (upTo i v) :: L)) => volGiveB_none Hg.out He.out h (by rw [HD.out]; omega) hj0 (by rw [upTo_in hj0]; exact hu)
                        have Hu := hid hu
                        clear hu
                        go_wp2_with (first
                          | (go_at_call 19; (with_reducible refine (hG _ _ hA).mono ?_); rintro e w2 ⟨r, rfl, rfl, hs2⟩; have d0 : w2.cell? ⟨wr.heap.size, 0, none⟩ = some (.int .i64 2) := (hs2.pull 1 : SatL _ (cl _ _ _ :: _)).cell (i := 0) rfl; have d1 : w2.cell? ⟨wr.heap.size, 1, none⟩ = some (.int .i64 j0) := (hs2.pull 1 : SatL _ (cl _ _ _ :: _)).cell (i := 1) rfl; have cq := Sl.cell (hs2.pull 2 : SatL _ (Sl _ _ _ :: _)) (i := j0) (bl_get hj0); rw [Hu.out, Nat.zero_add] at cq)
                          | (go_at_call 21; (with_reducible refine (hIs2 _).mono ?_); rintro e w3 ⟨rfl, rfl⟩))
                        go_roundw
                        case rel => exact ⟨k + 1, by omega, by omega, by go_num, u, v, Hdu.out, hs2.to⟩
                        case measure => simp [intOf]; omega
                      | true =>
                        have hG := fun (w1 : World) (L : List HP) (h : SatL w1 (VolR vb b i (upTo b u) (upTo i v) :: L)) => giveB_u Hg.out He.out h (by rw [HD.out]; omega) hj0 hu
                        have Hu := hid hu
                        clear hu
                        go_wp2_with (go_at_call 19; (with_reducible refine (hG _ _ hA).mono ?_); rintro e w2 ⟨r, rfl, rfl, hs2⟩; have d0 : w2.cell? ⟨wr.heap.size, 0, none⟩ = some (.int .i64 2) := (hs2.pull 1 : SatL _ (cl _ _ _ :: _)).cell (i := 0) rfl; have d1 : w2.cell? ⟨wr.heap.size, 1, none⟩ = some (.int .i64 j0) := (hs2.pull 1 : SatL _ (cl _ _ _ :: _)).cell (i := 1) rfl; have cq := Sl.cell (hs2.pull 2 : SatL _ (Sl _ _ _ :: _)) (i := j0) (bl_get hj0); rw [Hu.out, Nat.zero_add] at cq; have fq := Sl.free (hs2.pull 2 : SatL _ (Sl _ _ _ :: _)) (0 + j0); rw [Nat.zero_add] at fq; have st := hid (bl_store false (hs2.pull 2 : SatL _ (Sl _ _ _ :: _)) hj0))
                        go_roundw
                        case rel =>
                          have h2 := st.out
                          rw [Nat.zero_add] at h2
                          exact ⟨k + 1, by omega, by omega, by go_num, (fun t => if t = j0 then false else u t), v, (fun j hj => by show (if j = j0 then false else u j) = true; rw [if_neg (by omega)]; exact Hdu.out j hj), h2.to⟩
                        case measure => simp [intOf]; omega
                    · have hG := fun (w1 : World) (L : List HP) (h : SatL w1 (VolR vb b i (upTo b u) (upTo i v) :: L)) => volGiveB_arg (j := NN) h (.inr (by omega))
                      go_wp2_with (first
                        | (go_at_call 19; (with_reducible refine (hG _ _ hA).mono ?_); rintro e w2 ⟨r, rfl, rfl, hs2⟩; have d0 : w2.cell? ⟨wr.heap.size, 0, none⟩ = some (.int .i64 2) := (hs2.pull 1 : SatL _ (cl _ _ _ :: _)).cell (i := 0) rfl; have d1 : w2.cell? ⟨wr.heap.size, 1, none⟩ = some (.int .i64 NN) := (hs2.pull 1 : SatL _ (cl _ _ _ :: _)).cell (i := 1) rfl)
                        | (go_at_call 21; (with_reducible refine (hIs1 _).mono ?_); rintro e w3 ⟨rfl, rfl⟩))
                      go_roundw
                      case rel => exact ⟨k + 1, by omega, by omega, by go_num, u, v, Hdu.out, hs2.to⟩
                      case measure => simp [intOf]; omega
              · have q2 : (KK == 2) = false := by simpa using hk2
                clear hk2
                by_cases hk4 : KK = 4
                · subst hk4
                  as_aux_lemma =>
                    by_cases hlo : (NN : Int) < 2
                    · have hG := fun (w1 : World) (L : List HP) (h : SatL w1 (VolR vb b i (upTo b u) (upTo i v) :: L)) => volGiveI_arg (j := NN) h (.inl (by omega))
                      go_wp2_with (first
                        | (go_at_call 22; (with_reducible refine (hG _ _ hA).mono ?_); rintro e w2 ⟨r, rfl, rfl, hs2⟩; have d0 : w2.cell? ⟨wr.heap.size, 0, none⟩ = some (.int .i64 4) := (hs2.pull 1 : SatL _ (cl _ _ _ :: _)).cell (i := 0) rfl; have d1 : w2.cell? ⟨wr.heap.size, 1, none⟩ = some (.int .i64 NN) := (hs2.pull 1 : SatL _ (cl _ _ _ :: _)).cell (i := 1) rfl)
                        | (go_at_call 21; (with_reducible refine (hIs1 _).mono ?_); rintro e w3 ⟨rfl, rfl⟩))
                      go_roundw
                      case rel => exact ⟨k + 1, by omega, by omega, by go_num, u, v, Hdu.out, hs2.to⟩
                      case measure => simp [intOf]; omega
                    · by_cases hhi : (NN : Int) < i
                      · obtain ⟨j0, rfl⟩ : ∃ j0 : Nat, NN = j0 := ⟨NN.toNat, by omega⟩
                        have hj0 : j0 < i := by omega
                        have z1 : (0 : Int) ≤ j0 := by omega
                        cases hu : v j0 with
                        | false =>
                          have hG := fun (w1 : World) (L : List HP) (h : SatL w1 (VolR vb b i (upTo b u) (upTo i v) :: L)) => volGiveI_none Hg.out He.out h (by omega) hj0 (by rw [upTo_in hj0]; exact hu)
                          have Hu := hid hu
                          clear hu
                          go_wp2_with (first
                            | (go_at_call 22; (with_reducible refine (hG _ _ hA).mono ?_); rintro e w2 ⟨r, rfl, rfl, hs2⟩; have d0 : w2.cell? ⟨wr.heap.size, 0, none⟩ = some (.int .i64 4) := (hs2.pull 1 : SatL _ (cl _ _ _ :: _)).cell (i := 0) rfl; have d1 : w2.cell? ⟨wr.heap.size, 1, none⟩ = some (.int .i64 j0) := (hs2.pull 1 : SatL _ (cl _ _ _ :: _)).cell (i := 1) rfl; have cq := Sl.cell (hs2.pull 3 : SatL _ (Sl _ _ _ :: _)) (i := j0) (bl_get hj0); rw [Hu.out, Nat.zero_add] at cq)
                            | (go_at_call 21; (with_reducible refine (hIs2 _).mono ?_); rintro e w3 ⟨rfl, rfl⟩))
                          go_roundw
                          case rel => exact ⟨k + 1, by omega, by omega, by go_num, u, v, Hdu.out, hs2.to⟩
                          case measure => simp [intOf]; omega
                        | true =>
                          have hG := fun (w1 : World) (L : List HP) (h : SatL w1 (VolR vb b i (upTo b u) (upTo i v) :: L)) => giveI_u Hg.out He.out h (by omega) hj0 hu
                          have Hu := hid hu
                          clear hu
                          go_wp2_with (go_at_call 22; (with_reducible refine (hG _ _ hA).mono ?_); rintro e w2 ⟨r, rfl, rfl, hs2⟩; have d0 : w2.cell? ⟨wr.heap.size, 0, none⟩ = some (.int .i64 4) := (hs2.pull 1 : SatL _ (cl _ _ _ :: _)).cell (i := 0) rfl; have d1 : w2.cell? ⟨wr.heap.size, 1, none⟩ = some (.int .i64 j0) := (hs2.pull 1 : SatL _ (cl _ _ _ :: _)).cell (i := 1) rfl; have cq := Sl.cell (hs2.pull 3 : SatL _ (Sl _ _ _ :: _)) (i := j0) (bl_get hj0); rw [Hu.out, Nat.zero_add] at cq; have fq := Sl.free (hs2.pull 3 : SatL _ (Sl _ _ _ :: _)) (0 + j0); rw [Nat.zero_add] at fq; have st := hid (bl_store false (hs2.pull 3 : SatL _ (Sl _ _ _ :: _)) hj0))
                          go_roundw
                          case rel =>
                            have h2 := st.out
                            rw [Nat.zero_add] at h2
                            exact ⟨k + 1, by omega, by omega, by go_num, u, (fun t => if t = j0 then false else v t), Hdu.out, h2.to⟩
                          case measure => simp [intOf]; omega
                      · have hG := fun (w1 : World) (L : List HP) (h : SatL w1 (VolR vb b i (upTo b u) (upTo i v) :: L)) => volGiveI_arg (j := NN) h (.inr (by omega))
                        go_wp2_with (first
                          | (go_at_call 22; (with_reducible refine (hG _ _ hA).mono ?_); rintro e w2 ⟨r, rfl, rfl, hs2⟩; have d0 : w2.cell? ⟨wr.heap.size, 0, none⟩ = some (.int .i64 4) := (hs2.pull 1 : SatL _ (cl _ _ _ :: _)).cell (i := 0) rfl; have d1 : w2.cell? ⟨wr.heap.size, 1, none⟩ = some (.int .i64 NN) := (hs2.pull 1 : SatL _ (cl _ _ _ :: _)).cell (i := 1) rfl)
                          | (go_at_call 21; (with_reducible refine (hIs1 _).mono ?_); rintro e w3 ⟨rfl, rfl⟩))
                        go_roundw
                        case rel => exact ⟨k + 1, by omega, by omega, by go_num, u, v, Hdu.out, hs2.to⟩
                        case measure => simp [intOf]; omega
                · have q4 : (KK == 4) = false := by simpa using hk4
                  clear hk4
                  as_aux_lemma =>
                    go_wp2
                    go_roundw
                    case rel => exact ⟨k + 1, by omega, by omega, by go_num, u, v, Hdu.out, hA.to⟩
                    case measure => simp [intOf]; omega
        · as_aux_lemma =>
            have hgo2 : ¬ (k : Int) < l2 ∨ ((k : Int) < l2 ∧ ¬ (k : Int) < 200) := by omega
            have hFb := volFreeB Hg.out He.out hs
            have hFi := fun (w1 : World) (h : SatL w1 (VolR vb b i (upTo b u) (upTo i v) :: Sl 4 (.slice (some ⟨ub, 0, none⟩) b b) (bl b u) :: Sl 4 (.slice (some ⟨hb1, 0, none⟩) i i) (bl i v) :: [old w])) => volFreeI Hg.out He.out h
            rw [HT.out, nfree_upTo (by omega)] at hFb
            simp only [nfree_upTo n6] at hFi
            clear hC hdu hgo hb hi
            rcases hgo2 with hgo | ⟨hgo1, hgo⟩
            all_goals
              go_wp2
              go_loop [21, 23] (fun c jj => ∃ q : Nat, q ≤ b ∧ jj = .int .i64 q ∧ c = .int .i64 (nfree u q)) (fun _ jj => b - (intOf jj).toNat)
              case atStart => exact ⟨0, by omega, rfl, rfl⟩
              case round =>
                obtain ⟨q, hq, rfl, rfl⟩ := hrel
                by_cases hqb : q < b
                · have cq := Sl.cell (hs.pull 1 : SatL _ (Sl _ _ _ :: _)) (i := q) (bl_get hqb)
                  rw [Nat.zero_add] at cq
                  have hle := nfree_le u q
                  have hn : nfree u (q + 1) = nfree u q + if u q then 0 else 1 := rfl
                  have z1 : (0 : Int) ≤ q := by omega
                  have z2 : (q : Int) < b := by omega
                  generalize nfree u q = c0 at *
                  cases hu : u q with
                  | true =>
                    rw [hu] at cq hn
                    have Hn := hid hn
                    clear hn hu
                    go_wp2
                    go_round
                    case rel => exact ⟨q + 1, by omega, by go_num, by rw [Hn.out]; rfl⟩
                    case measure => simp [intOf]; omega
                  | false =>
                    rw [hu] at cq hn
                    have Hn := hid hn
                    clear hn hu
                    go_wp2
                    go_round
                    case rel => exact ⟨q + 1, by omega, by go_num, by rw [Hn.out]; go_num⟩
                    case measure => simp [intOf]; omega
                · obtain rfl : b = q := by omega
                  clear hqb hq
                  go_wp2
                  go_loop [22, 24] (fun c jj => ∃ q : Nat, q ≤ i ∧ jj = .int .i64 q ∧ c = .int .i64 (nfree v q)) (fun _ jj => i - (intOf jj).toNat)
                  case atStart => exact ⟨0, by omega, rfl, rfl⟩
                  case round =>
                    obtain ⟨q, hq, rfl, rfl⟩ := hrel
                    by_cases hqb : q < i
                    · have cq := Sl.cell (hs.pull 2 : SatL _ (Sl _ _ _ :: _)) (i := q) (bl_get hqb)
                      rw [Nat.zero_add] at cq
                      have hle := nfree_le v q
                      have hn : nfree v (q + 1) = nfree v q + if v q then 0 else 1 := rfl
                      have z1 : (0 : Int) ≤ q := by omega
                      have z2 : (q : Int) < i := by omega
                      generalize nfree v q = c0 at *
                      cases hu : v q with
                      | true =>
                        rw [hu] at cq hn
                        have Hn := hid hn
                        clear hn hu
                        go_wp2
                        go_round
                        case rel => exact ⟨q + 1, by omega, by go_num, by rw [Hn.out]; rfl⟩
                        case measure => simp [intOf]; omega
                      | false =>
                        rw [hu] at cq hn
                        have Hn := hid hn
                        clear hn hu
                        go_wp2
                        go_round
                        case rel => exact ⟨q + 1, by omega, by go_num, by rw [Hn.out]; go_num⟩
                        case measure => simp [intOf]; omega
                    · obtain rfl : i = q := by omega
                      clear hqb
                      go_wp2_with (first
                        | (go_at_call 23; (with_reducible refine hFb.mono ?_); rintro e w2 ⟨r, rfl, rfl, hs2⟩)
                        | (go_at_call 24; (with_reducible refine (hFi _ hs2).mono ?_); rintro e w3 ⟨r, rfl, rfl, hs3⟩))
                      go_ret
                      exact Ret.mk ⟨rfl, SatL.tail (SatL.tail (SatL.tail hs3))⟩

end Go.Proofs.Ytgbaigbplaoeaaa
