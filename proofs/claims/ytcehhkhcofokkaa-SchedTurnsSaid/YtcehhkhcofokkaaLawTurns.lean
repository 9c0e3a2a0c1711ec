/- SchedTurns: for every input it returns true and writes nothing that was there. No condition. -/
import Derived.Test.YtcehhkhcofokkaaSchedL
namespace Go.Proofs.Ytcehhkhcofokkaa
open Go.RowKit
set_option linter.unusedVariables false

def rot (n i : Nat) : List Int := (List.range n).map fun j => (((i + j) % n : Nat) : Int)
theorem rot_head (n i : Nat) (hn : 0 < n) : (rot n i)[0]? = some ((i % n : Nat) : Int) := by
  obtain ⟨m, rfl⟩ : ∃ m, n = m + 1 := ⟨n - 1, by omega⟩
  unfold rot; rw [List.range_succ_eq_map]; simp
theorem rot_len (n i : Nat) : (rot n i).length = n := by simp [rot]
theorem rot_zero (n : Nat) : rot n 0 = (List.range n).map fun j : Nat => (j : Int) := by
  unfold rot
  apply List.map_congr_left
  intro j hj
  have : j < n := by simpa using hj
  rw [Nat.zero_add, Nat.mod_eq_of_lt this]
theorem rot_filter (n i : Nat) (hn : 0 < n) : ∃ L, rot n i = ((i % n : Nat) : Int) :: L ∧ (rot n i).filter (fun x => !(x == ((i % n : Nat) : Int))) = L ∧ (¬ ((i % n : Nat) : Int) ∈ L) ∧ L ++ [((i % n : Nat) : Int)] = rot n (i + 1) := by
  obtain ⟨m, rfl⟩ : ∃ m, n = m + 1 := ⟨n - 1, by omega⟩
  have ne : ∀ j, j < m → (i + (j + 1)) % (m + 1) ≠ i % (m + 1) := by
    intro j hj e
    have h1 := Nat.sub_mod_eq_zero_of_mod_eq e
    rw [Nat.add_sub_cancel_left, Nat.mod_eq_of_lt (by omega)] at h1
    omega
  have hr : rot (m + 1) i = ((i % (m + 1) : Nat) : Int) :: (List.range m).map (fun j => (((i + (j + 1)) % (m + 1) : Nat) : Int)) := by
    unfold rot; rw [List.range_succ_eq_map]; simp [Function.comp_def]
  have hno : ∀ x ∈ (List.range m).map (fun j => (((i + (j + 1)) % (m + 1) : Nat) : Int)), ¬ x = ((i % (m + 1) : Nat) : Int) := by
    intro x hx e
    obtain ⟨j, hj, rfl⟩ := List.mem_map.1 hx
    exact ne j (by simpa using hj) (by exact_mod_cast e)
  refine ⟨_, hr, ?_, fun h => hno _ h rfl, ?_⟩
  · rw [hr, List.filter_cons]
    simp only [beq_self_eq_true, Bool.not_true, Bool.false_eq_true, if_false]
    rw [List.filter_eq_self]
    intro x hx
    simpa using hno x hx
  · unfold rot
    rw [List.range_succ, List.map_append]
    congr 1
    · apply List.map_congr_left
      intro j _
      congr 2; omega
    · simp only [List.map_cons, List.map_nil]
      rw [show i + 1 + m = i + (m + 1) by omega, Nat.add_mod_right]

/-- how often the j-th of n was picked, of i picks -/
def cnt (n i j : Nat) : Nat := (i + n - 1 - j) / n
theorem cnt_zero (n j : Nat) (hj : j < n) : cnt n 0 j = 0 := by unfold cnt; exact Nat.div_eq_of_lt (by omega)
theorem cnt_val (n i j : Nat) (hj : j < n) : cnt n i j = i / n + if j < i % n then 1 else 0 := by
  unfold cnt
  have h1 := Nat.div_add_mod i n
  have h2 := Nat.mod_lt i (show 0 < n by omega)
  generalize i / n = q at *
  generalize i % n = r at *
  have : i + n - 1 - j = r + n - 1 - j + n * q := by omega
  rw [this, Nat.add_mul_div_left _ _ (by omega)]
  split
  · rw [show r + n - 1 - j = (r - 1 - j) + n * 1 by omega, Nat.add_mul_div_left _ _ (by omega), Nat.div_eq_of_lt (by omega)]; omega
  · rw [Nat.div_eq_of_lt (by omega)]; omega
theorem cnt_succ (n i j : Nat) (hj : j < n) : cnt n (i + 1) j = if j = i % n then cnt n i j + 1 else cnt n i j := by
  rw [cnt_val n _ j hj, cnt_val n i j hj]
  have h1 := Nat.div_add_mod i n
  have h2 := Nat.mod_lt i (show 0 < n by omega)
  generalize i / n = q at *
  generalize i % n = r at *
  by_cases hr : r + 1 < n
  · have e1 : (i + 1) / n = q := by rw [← h1, Nat.add_assoc, Nat.mul_add_div (by omega), Nat.div_eq_of_lt hr]; rfl
    have e2 : (i + 1) % n = r + 1 := by rw [← h1, Nat.add_assoc, Nat.mul_add_mod, Nat.mod_eq_of_lt hr]
    rw [e1, e2]
    split <;> split <;> (try split) <;> omega
  · have hrn : r + 1 = n := by omega
    have e0 : i + 1 = n * (q + 1) := by rw [Nat.mul_add, Nat.mul_one]; omega
    have e1 : (i + 1) / n = q + 1 := by rw [e0, Nat.mul_div_cancel_left _ (by omega)]
    have e2 : (i + 1) % n = 0 := by rw [e0, Nat.mul_mod_right]
    rw [e1, e2]
    split <;> split <;> (try split) <;> omega
theorem cnt_end (n M j : Nat) (hj : j < n) : cnt n M j = M / n ∨ cnt n M j = M / n + 1 := by
  rw [cnt_val n M j hj]; split <;> simp

abbrev CtR (cb : Nat → Nat) (f : Nat → Nat) (j : Nat) : HP := cl (cb j) 45 #[.int .i64 (f j)]
def Cts (n : Nat) (cb f : Nat → Nat) : HP := big (CtR cb f) (List.range n)
def ctask (cb : Nat → Nat) (j : Nat) : Value := .iface 43 (.pointer (some ⟨cb j, 0, none⟩))
def cptrs (n : Nat) (cb : Nat → Nat) : List Value := (List.range n).map fun j => .pointer (some ⟨cb j, 0, none⟩)

structure TInv (n : Nat) (cb : Nat → Nat) (S : SchedS) : Prop where
  len : S.all.length = n
  all : ∀ j, j < n → ∃ x, S.all[j]? = some x ∧ x.task = ctask cb j ∧ x.state = 1

section
variable {w : World} {l : List HP} {pb : Nat} {S : SchedS}

theorem Cts_congr {n : Nat} {cb cb' f f' : Nat → Nat} (h : SatL w (Cts n cb f :: l)) (h1 : ∀ j, j < n → cb j = cb' j) (h2 : ∀ j, j < n → f j = f' j) : SatL w (Cts n cb' f' :: l) := by
  unfold Cts big at *
  have : (List.range n).map (CtR cb f) = (List.range n).map (CtR cb' f') := by
    apply List.map_congr_left
    intro j hj
    have hj : j < n := by simpa using hj
    simp only [CtR, h1 j hj, h2 j hj]
  rw [this] at h; exact h
theorem Cts_get {n j : Nat} {cb f : Nat → Nat} (hj : j < n) (h : SatL w (Cts n cb f :: l)) : ∃ L : HP, SatL w (CtR cb f j :: L :: l) ∧ ∀ (w' : World) (l' : List HP) (f' : Nat → Nat), (∀ k, k < n → k ≠ j → f' k = f k) → SatL w' (CtR cb f' j :: L :: l') → SatL w' (Cts n cb f' :: l') := by
  have hx : (List.range n)[j]? = some j := by simp [hj]
  refine ⟨_, (big_get hx).1 h, fun w' l' f' hf h' => ?_⟩
  have e : ((List.range n).take j ++ (List.range n).drop (j + 1)).map (CtR cb f) = ((List.range n).take j ++ (List.range n).drop (j + 1)).map (CtR cb f') := by
    apply List.map_congr_left
    intro k hk
    have : k ≠ j := by
      rintro rfl
      rcases List.mem_append.1 hk with hk | hk
      · obtain ⟨i, hi⟩ := List.getElem?_of_mem hk
        rw [List.getElem?_take] at hi
        split at hi
        · have h3 := (List.getElem?_eq_some_iff.1 hi).2
          simp only [List.getElem_range] at h3
          omega
        · cases hi
      · obtain ⟨i, hi⟩ := List.getElem?_of_mem hk
        simp only [List.getElem?_drop] at hi
        have h3 := (List.getElem?_eq_some_iff.1 hi).2
        simp only [List.getElem_range] at h3
        omega
    have hkn : k < n := by
      rcases List.mem_append.1 hk with hk | hk
      · simpa using List.mem_of_mem_take hk
      · simpa using List.mem_of_mem_drop hk
    simp only [CtR, hf k hkn this]
  unfold big at h'
  rw [e] at h'
  exact (big_get hx).2 h'
theorem Cts_snoc {n : Nat} {cb f : Nat → Nat} {b v : Nat} (h : SatL w (cl b 45 #[.int .i64 v] :: Cts n cb f :: l)) : SatL w (Cts (n + 1) (fun j => if j = n then b else cb j) (fun j => if j = n then v else f j) :: l) := by
  have h1 := Cts_congr (cb' := fun j => if j = n then b else cb j) (f' := fun j => if j = n then v else f j) h.swap (fun j hj => by rw [if_neg (by omega)]) (fun j hj => by rw [if_neg (by omega)])
  unfold Cts at *
  rw [List.range_succ]
  refine big_snoc ?_
  have h2 := h1.swap
  unfold CtR
  simp only [if_true]
  exact h2

theorem counter_step {tb n : Nat} (hn : n < 1000000) (h : SatL w (cl tb 45 #[.int .i64 n] :: l)) (id : Nat) :
    Calls Try.prog 111 #[.pointer (some ⟨tb, 0, none⟩), .pointer (some ⟨pb, 0, none⟩), .int .i64 id] w (Ret (UnitPost (cl tb 45 #[.int .i64 ((n + 1 : Nat) : Int)] :: l))) := by
  have c0 : w.cell? ⟨tb, 0, none⟩ = some (.int .i64 n) := h.cell (i := 0) rfl
  have f0 := h.free 0
  go_enter Try.func111, Try.ntmps111
  go_wp2
  go_end0
  refine Ret.mk ⟨rfl, ?_⟩
  have := h.set (i := 0) (.int .i64 ((n + 1 : Nat) : Int))
  exact this

theorem cptrs_snoc (k b : Nat) (cb : Nat → Nat) : cptrs (k + 1) (fun j => if j = k then b else cb j) = cptrs k cb ++ [.pointer (some ⟨b, 0, none⟩)] := by
  unfold cptrs
  rw [List.range_succ, List.map_append]
  congr 1
  · apply List.map_congr_left
    intro j hj
    have : j < k := by simpa using hj
    have hne : j ≠ k := by omega
    simp [hne]
  · simp
theorem TInv.snoc {k b wb : Nat} {cb : Nat → Nat} (hI : TInv k cb S) : TInv (k + 1) (fun j => if j = k then b else cb j) { S with all := S.all ++ [⟨wb, .iface 43 (.pointer (some ⟨b, 0, none⟩)), 1, 0⟩], queue := S.queue ++ [(S.all.length : Int)] } := by
  refine ⟨by simp [hI.len], fun j hj => ?_⟩
  by_cases hjk : j = k
  · subst hjk
    refine ⟨_, by simp only; rw [List.getElem?_append_right (by rw [hI.len]; omega), hI.len, Nat.sub_self]; rfl, by simp [ctask], rfl⟩
  · obtain ⟨x, h1, h2, h3⟩ := hI.all j (by omega)
    exact ⟨x, by simp only; rw [List.getElem?_append_left (by rw [hI.len]; omega)]; exact h1, by rw [h2]; simp [ctask, hjk], h3⟩
theorem rot_snoc (k : Nat) : rot k 0 ++ [(k : Int)] = rot (k + 1) 0 := by rw [rot_zero, rot_zero, List.range_succ]; simp
theorem cptrs_len (n : Nat) (cb : Nat → Nat) : (cptrs n cb).length = n := by simp [cptrs]

theorem elem_ctr : ElemOk Try.prog 42 43 1 8 [Value.pointer none] := .of (z := Value.pointer none) (by kernel_rfl) (by kernel_rfl) rfl rfl (by decide) (by simp [Value.oneCell'])
theorem cna (a : Addr) (w : World) : (nilAhead 263 43 (.pointer (some a)) "Step").run Try.prog w = .ok (some false) w := by kernel_rfl
theorem cme (a : Addr) (w : World) : (method 263 43 (.pointer (some a)) "Step").run Try.prog w = .ok (111, .pointer (some a)) w := by kernel_rfl
theorem ccf : CallOk Try.prog 111 := fun _ _ => by kernel_rfl

/-- one pick -/
theorem pick_turn {n i : Nat} {cb : Nat → Nat} (hn : 0 < n ∧ n < 1000) (hi : i < 1000) (hI : TInv n cb S) (hq : S.queue = rot n i) (h : SatL w (SchedR pb S :: Cts n cb (fun j => cnt n i j) :: l)) :
    Calls Try.prog 19 #[.pointer (some ⟨pb, 0, none⟩), .int .i64 0] w (Ret fun v w' => v = .tuple #[.int .i64 ((i % n : Nat) : Int), .int .i64 0] ∧ ∃ S', TInv n cb S' ∧ S'.queue = rot n (i + 1) ∧ SatL w' (SchedR pb S' :: Cts n cb (fun j => cnt n (i + 1) j) :: l)) := by
  have hj : i % n < n := Nat.mod_lt _ hn.1
  obtain ⟨L, r1, r2, r3, r4⟩ := rot_filter n i hn.1
  obtain ⟨x, hx, hT, hst⟩ := hI.all _ hj
  have hql : S.queue.length = n := by rw [hq, rot_len]
  obtain ⟨R, h2, back⟩ := Cts_get hj h.swap
  have hc : cnt n i (i % n) < 1000000 := by
    have := cnt_end n i (i % n) hj
    have := Nat.div_le_self i n
    omega
  have hstep : ∀ w' : World, SatL w' (SchedR pb (S.unq ((i % n : Nat) : Int)) :: CtR cb (fun j => cnt n i j) (i % n) :: R :: l) → Calls Try.prog 111 #[.pointer (some ⟨cb (i % n), 0, none⟩), .pointer (some ⟨pb, 0, none⟩), .int .i64 ((i % n : Nat) : Int)] w' (Ret (UnitPost (SchedR pb (S.unq ((i % n : Nat) : Int)) :: Cts n cb (fun j => cnt n (i + 1) j) :: l))) := by
    intro w' h'
    refine (counter_step (pb := pb) hc h'.swap (i % n)).mono ?_
    rintro e w2 ⟨v, rfl, rfl, h3⟩
    refine ⟨_, rfl, rfl, (back _ _ (fun j => cnt n (i + 1) j) ?_ ?_ : SatL w2 (Cts _ _ _ :: _)).swap⟩
    · intro k hk hne
      show cnt n (i + 1) k = _
      rw [cnt_succ n i k hk, if_neg hne]
    · have e := cnt_succ n i (i % n) hj
      rw [if_pos rfl] at e
      have h4 := h3.bring [0, 2, 1]
      show SatL w2 (cl (cb (i % n)) 45 #[.int .i64 ((cnt n (i + 1) (i % n) : Nat) : Int)] :: R :: SchedR pb (S.unq ((i % n : Nat) : Int)) :: l)
      rw [e]
      exact h4
  have hp := pick_ok (h2.bring [2, 0, 1]) 0 0 (i % n) x x _ _ _ _ _ (by rw [hql]; simp) (by rw [hq]; exact rot_head n i hn.1) hx (by rw [hT]; rfl) (by rw [hI.len]; omega) (by omega) cna cme ccf hstep hx (by show S.all.length < _; rw [hI.len]; omega) (by
    show (S.queue.filter _).length < _
    have := List.length_filter_le (fun x => !(x == ((i % n : Nat) : Int))) S.queue
    omega)
  refine hp.mono ?_
  rintro e w' ⟨v, rfl, rfl, h4⟩
  refine ⟨_, rfl, rfl, (S.unq ((i % n : Nat) : Int)).stepped ((i % n : Nat) : Int) x.state, ?_, ?_, h4⟩
  · rw [hst]; unfold SchedS.stepped; split <;> exact ⟨hI.len, hI.all⟩
  · have e1 : (S.unq ((i % n : Nat) : Int)).queue = L := by show S.queue.filter _ = L; rw [hq, r2]
    unfold SchedS.stepped
    rw [if_pos ⟨hst, by rw [e1]; exact r3⟩]
    show (S.unq ((i % n : Nat) : Int)).queue ++ _ = _
    rw [e1, r4]

set_option maxRecDepth 100000 in
set_option maxHeartbeats 4000000 in
theorem turns_walk (a0 a1 : Int) (w : World) :
    Calls Try.prog 5 #[.int .i64 a0, .int .i64 a1] w (Ret (BoolPost [old w] true)) := by
  have hk := known_ok (sat_old w)
  have hwi := fun (w1 : World) (h : SatL w1 [old w]) => within_ok a0 9 (by omega) h
  obtain ⟨hb0, hb1⟩ := within_bd a0 9 (by omega)
  have hwj := fun (w1 : World) (h : SatL w1 [old w]) => within_ok a1 500 (by omega) h
  obtain ⟨hc0, hc1⟩ := within_bd a1 500 (by omega)
  obtain ⟨n, hn⟩ : ∃ n : Nat, 1 + withinI a0 9 = n := ⟨(1 + withinI a0 9).toNat, by omega⟩
  obtain ⟨M, hM⟩ : ∃ n : Nat, withinI a1 500 = n := ⟨(withinI a1 500).toNat, by omega⟩
  have hn1 : 1 ≤ n ∧ n ≤ 9 := by omega
  have hM1 : M < 500 := by omega
  have hnew := fun (w1 : World) (h : SatL w1 [old w]) => new_ok h
  rw [hM] at hwj
  clear hM hc0 hc1
  generalize withinI a0 9 = m at *
  have t0 : True := trivial
  go_enter Try.func5, Try.ntmps5
  go_wp2_with (first
    | (go_at_call 9; (with_reducible refine hk.mono ?_); rintro e w2 ⟨v, rfl, rfl, hs2⟩)
    | (have _t := t0; go_at_call 10; (with_reducible refine (hwi _ hs2).mono ?_); rintro e w3 ⟨v, rfl, rfl, hs3⟩; clear t0)
    | (go_at_call 10; (with_reducible refine (hwj _ hs3).mono ?_); rintro e w4 ⟨v, rfl, rfl, hs4⟩)
    | (go_at_call 20; (with_reducible refine (hnew _ hs4).mono ?_); rintro e w5 ⟨v, rfl, pb, rfl, hs5⟩))
  clear hnew hwi hwj hk hb0 hb1 hn hs2 hs3 hs4
  go_loopw [6, 7] (fun lv i wr => ∃ (k : Nat) (cb : Nat → Nat) (S : SchedS), k ≤ n ∧ i = .int .i64 k ∧ TInv k cb S ∧ S.queue = rot k 0 ∧ SatL wr (SchedR pb S :: Cts k cb (fun _ => 0) :: Sl 43 lv (cptrs k cb) :: [old w])) (fun _ i _ => n - (intOf i).toNat)
  case atStart =>
    refine ⟨0, fun _ => 0, SchedS.new, by omega, rfl, ⟨rfl, by intro j hj; omega⟩, rfl, ?_⟩
    have h1 := Sl_nil (T := 43) hs5
    have h2 := (big_nil (f := CtR (fun _ => 0) (fun _ => 0))).2 h1
    exact h2.bring [2, 0, 1]
  case round =>
    obtain ⟨k, cb, S, hk, rfl, hI, hq, hs⟩ := hrel
    by_cases hlt : k < n
    · have hs1 := (hs.alloc (.cells #[.int .i64 0] 45)).pull 3
      have hnb : wr.heap.size + 1 = (wr.alloc (.cells #[.int .i64 0] 45)).heap.size := by simp
      have Hnb := hid hnb
      clear hnb
      have b1 : ((cptrs k cb).length + 1) * 8 ≤ 140737488355328 := by rw [cptrs_len]; omega
      have b8 : 0 < 8 := by omega
      have hsp := fun (w' : World) (l : List HP) (h : SatL w' (SchedR pb S :: l)) => spawn_ok h 43 (.pointer (some ⟨wr.heap.size, 0, none⟩)) (by rw [hI.len]; omega) (by rw [hq, rot_len]; omega)
      have HI := hid hI
      have Hq := hid hq
      clear hI hq
      go_wp2_with (first
        | (at_builtin; refine wpList_pushN_sl Hnb.out rfl (.tmp 30) (.tmp 32) rfl elem_ctr b8 rfl hs1 rfl rfl b1 ?_; intro v' w6 h6)
        | (go_at_call 21; (with_reducible refine (hsp _ _ (SatL.pull h6 2)).mono ?_); rintro e w7 ⟨v, rfl, rfl, wb, h7⟩))
      go_roundw
      case rel =>
        have h8 := Cts_snoc (v := 0) (SatL.bring h7 [2, 3])
        have h9 := Cts_congr (f' := fun _ => 0) h8 (fun j _ => rfl) (fun j _ => by simp)
        refine ⟨k + 1, (fun j => if j = k then wr.heap.size else cb j), _, by omega, by go_num, TInv.snoc (wb := wb) HI.out, ?_, ?_⟩
        rotate_left
        · rw [cptrs_snoc]
          exact SatL.bring h9 [1, 0, 2]
        · show S.queue ++ _ = _
          rw [Hq.out, HI.out.len, rot_snoc]
      case measure => simp [intOf]; omega
    · obtain rfl : k = n := by omega
      obtain ⟨la, lc, rfl, hl1, hl2⟩ := Sl.valn (hs.pull 2 : SatL wr (Sl _ _ _ :: _)) (cptrs_len k cb)
      go_wp2
      have hs2 : SatL wr (SchedR pb S :: Cts k cb (fun j => cnt k 0 j) :: Sl 43 (.slice la k lc) (cptrs k cb) :: [old w]) := (Cts_congr (hs.pull 1 : SatL wr (Cts _ _ _ :: _)) (fun j _ => rfl) (fun j hj => (cnt_zero k j hj).symm)).swap
      clear hs
      obtain ⟨wo, rfl⟩ : ∃ wo : World, wo = wr := ⟨_, rfl⟩
      go_loopw [9] (fun i wr => ∃ (j : Nat) (S : SchedS), j ≤ M ∧ i = .int .i64 j ∧ TInv k cb S ∧ S.queue = rot k j ∧ SatL wr (SchedR pb S :: Cts k cb (fun q => cnt k j q) :: Sl 43 (.slice la k lc) (cptrs k cb) :: [old w])) (fun i _ => M - (intOf i).toNat)
      case atStart => exact ⟨0, S, by omega, rfl, hI, hq, hs2⟩
      case round =>
        obtain ⟨j, S1, hj, rfl, hI1, hq1, hs3⟩ := hrel
        clear hI hq hs2
        by_cases hjm : j < M
        · have hpk := pick_turn (by omega) (by omega) hI1 hq1 hs3
          have hjk : (j : Int) % (k : Int) = ((j % k : Nat) : Int) := by push_cast; rfl
          have hk0 : ((k : Int) == 0) = false := by simp; omega
          generalize j % k = r at *
          clear hI1 hq1 hs3
          go_wp2_with (go_at_call 19; (with_reducible refine hpk.mono ?_); rintro e w8 ⟨v, rfl, rfl, S2, hI2, hq2, hs4⟩; have HI2 := hid hI2; have Hq2 := hid hq2; clear hI2 hq2)
          go_roundw
          case rel => exact ⟨j + 1, S2, by omega, by go_num, HI2.out, Hq2.out, hs4⟩
          case measure => simp [intOf]; omega
        · obtain rfl : j = M := by omega
          clear hI1 hq1
          go_wp2
          obtain ⟨wo2, rfl⟩ : ∃ wo : World, wo = wr := ⟨_, rfl⟩
          go_loopw [12] (fun i wr => ∃ (q : Nat), q ≤ k ∧ i = .int .i64 q ∧ SatL wr (SchedR pb S1 :: Cts k cb (fun q => cnt k j q) :: Sl 43 (.slice la k lc) (cptrs k cb) :: [old w])) (fun i _ => k - (intOf i).toNat)
          case atStart => exact ⟨0, by omega, rfl, hs3⟩
          case round =>
            obtain ⟨q, hq, rfl, hs5⟩ := hrel
            by_cases hqk : q < k
            · obtain ⟨lb, lo, rfl⟩ := Sl.addr (hs5.pull 2 : SatL _ (Sl _ _ _ :: _)) (by omega)
              have q1 := Sl.cell (hs5.pull 2 : SatL _ (Sl _ _ _ :: _)) (i := q) (x := .pointer (some ⟨cb q, 0, none⟩)) (by simp [cptrs, hqk])
              obtain ⟨R, hs6, _⟩ := Cts_get hqk (hs5.pull 1 : SatL _ (Cts _ _ _ :: _))
              have q2 : wr.cell? ⟨cb q, 0, none⟩ = some (.int .i64 (cnt k j q : Nat)) := hs6.cell (i := 0) rfl
              obtain ⟨d, hd⟩ : ∃ d, j / k = d := ⟨_, rfl⟩
              have hdk : d ≤ j := by rw [← hd]; exact Nat.div_le_self _ _
              have hjk : (j : Int) / (k : Int) = (d : Int) := by rw [← hd]; push_cast; rfl
              have hjk2 : (j : Int).tdiv (k : Int) = (d : Int) := by rw [← hd]; rfl
              have hce := cnt_end k j q hqk
              rw [hd] at hce
              clear hd
              have hk0 : ((k : Int) == 0) = false := by simp; omega
              have hw2 : IntKind.i64.wrap ((d : Int) + 1) = (d : Int) + 1 := IntWalk.i64_in _ (by omega)
              have hqk' : (q : Int) < k := by omega
              have hq0 : (0 : Int) ≤ q := by omega
              rcases hce with hc | hc
              · rw [hc] at q2
                have e1 : ((d : Int) != (d : Int)) = false := by simp
                clear hc hs6
                go_wp2_with (fail "stop")
                go_quiet (fail)
                go_wp2
                go_roundw
                case rel => exact ⟨q + 1, by omega, by go_num, hs5⟩
                case measure => simp [intOf]; omega
              · rw [hc] at q2
                have e1 : (((d + 1 : Nat) : Int) != (d : Int)) = true := by simp; omega
                have e2 : (((d + 1 : Nat) : Int) != (d : Int) + 1) = false := by simp
                have e3 : (((d : Int) + 1) != (d : Int)) = true := by simp; omega
                clear hc hs6
                go_wp2_with (fail "stop")
                go_quiet (fail)
                go_wp2
                go_roundw
                case rel => exact ⟨q + 1, by omega, by go_num, hs5⟩
                case measure => simp [intOf]; omega
            · go_wp2
              go_ret
              exact Ret.mk ⟨rfl, hs5.to⟩
end
end Go.Proofs.Ytcehhkhcofokkaa
