/- SchedWakes: for every input it returns true and writes nothing that was there. No condition. -/
import Derived.Test.YtcehhkhcofokkaaSchedK
import Derived.Test.YtcehhkhcofokkaaPush
namespace Go.Proofs.Ytcehhkhcofokkaa
open Go.RowKit
set_option linter.unusedVariables false

/-- those that are ready, in the order of their numbers -/
def rqk (all : List Wk) (n : Nat) : List Int := ((List.range n).filter (fun i => (all[i]?.map (·.state)) == some 1)).map (fun i : Nat => (i : Int))

structure WInv (n k : Nat) (wake : Int) (want : List Int) (S : SchedS) : Prop where
  len : S.all.length = n
  st : ∀ x ∈ S.all, x.state = 1 ∨ x.state = 2
  q : S.queue = rqk S.all n
  sl : S.sl wake = want
  rng : ∀ ch, ∀ id ∈ S.sl ch, 0 ≤ id ∧ id < n
  few : ∀ ch, (S.sl ch).length ≤ k

theorem WInv.start {n : Nat} {S : SchedS} (h : spawned n S) (wake : Int) : WInv n 0 wake [] S := by
  obtain ⟨h1, h2, h3, h4, _⟩ := h
  refine ⟨h1, fun x hx => .inl (h2 x hx), ?_, by rw [h4], by simp [h4], by simp [h4]⟩
  rw [h3]
  unfold rqk
  congr 1
  symm
  rw [List.filter_eq_self]
  intro i hi
  have hi : i < S.all.length := by simpa [h1] using hi
  rw [List.getElem?_eq_getElem hi]
  simpa using h2 _ (List.getElem_mem hi)

theorem modify_get {xs : List Wk} {i : Nat} {x : Wk} (f : Wk → Wk) (hx : xs[i]? = some x) (j : Nat) : (xs.modify i f)[j]? = if i = j then some (f x) else xs[j]? := by
  rw [modify_set _ hx, List.getElem?_set]
  split
  · rename_i h; subst h; rw [if_pos (List.getElem?_eq_some_iff.1 hx).1]
  · rfl

theorem WInv.step {n k : Nat} {wake : Int} {want : List Int} {S : SchedS} (h : WInv n k wake want S) {i : Nat} {x : Wk} (hx : S.all[i]? = some x) (hs : x.state = 1) (c : Int) :
    S.sleep i c = (0, { S.rest i 2 with sl := upf S.sl c (S.sl c ++ [(i : Int)]) }) ∧ WInv n (k + 1) wake (if c = wake then want ++ [(i : Int)] else want) { S.rest i 2 with sl := upf S.sl c (S.sl c ++ [(i : Int)]) } := by
  have hi := (List.getElem?_eq_some_iff.1 hx).1
  have hm : S.may i = 0 := by unfold SchedS.may; rw [if_neg (by omega)]; simp [hx, hs]
  refine ⟨by simp [SchedS.sleep, hm], ?_, ?_, ?_, ?_, ?_, ?_⟩
  · simp [SchedS.rest, SchedS.setSt, h.len]
  · intro y hy
    obtain ⟨j, hj⟩ := List.getElem?_of_mem hy
    simp only [SchedS.rest, SchedS.setSt] at hj
    rw [modify_get _ hx] at hj
    split at hj
    · cases hj; exact .inr rfl
    · exact h.st y (List.mem_of_getElem? hj)
  · show S.queue.filter (fun x => !(x == (i : Int))) = rqk (S.all.modify i fun x => { x with state := 2 }) n
    rw [h.q]
    unfold rqk
    rw [List.filter_map, List.filter_filter]
    congr 1
    apply List.filter_congr
    intro j hj
    rw [modify_get _ hx]
    by_cases hij : i = j
    · subst hij; simp
    · have : ¬ ((j : Int) = i) := by omega
      simp [hij, this]
  · show upf S.sl c _ wake = _
    unfold upf
    by_cases hc : c = wake
    · subst hc; simp [h.sl]
    · rw [if_neg (fun e => hc e.symm), if_neg hc, h.sl]
  · intro ch id hid
    simp only [upf] at hid
    split at hid
    · rcases List.mem_append.1 hid with hid | hid
      · exact h.rng _ _ hid
      · simp at hid; subst hid; have := h.len; omega
    · exact h.rng _ _ hid
  · intro ch
    show (upf S.sl c _ ch).length ≤ _
    unfold upf
    split
    · have := h.few c; simp; omega
    · have := h.few ch; omega
theorem WInv.step' {n k : Nat} {wake : Int} {want : List Int} {S : SchedS} (h : WInv n k wake want S) {i : Nat} {x : Wk} (hx : S.all[i]? = some x) (hs : x.state = 1) (c : Int) :
    ∃ S', S.sleep i c = (0, S') ∧ WInv n (k + 1) wake (if c = wake then want ++ [(i : Int)] else want) S' := ⟨_, h.step hx hs c⟩
theorem WInv.busy {n k : Nat} {wake : Int} {want : List Int} {S : SchedS} (h : WInv n k wake want S) {i : Nat} {x : Wk} (hx : S.all[i]? = some x) (hs : x.state = 2) (c : Int) :
    S.sleep i c = (8, S) ∧ WInv n (k + 1) wake want S := by
  have hm : S.may i = 8 := by unfold SchedS.may; rw [if_neg (by omega)]; simp [hx, hs]
  exact ⟨by simp [SchedS.sleep, hm], h.len, h.st, h.q, h.sl, h.rng, fun ch => by have := h.few ch; omega⟩

theorem rqk_succ {all : List Wk} {k : Nat} {x : Wk} (hx : all[k]? = some x) : rqk all (k + 1) = if x.state = 1 then rqk all k ++ [(k : Int)] else rqk all k := by
  unfold rqk
  rw [List.range_succ, List.filter_append, List.map_append]
  split <;> simp [hx, *]
theorem rqk_len (all : List Wk) (k : Nat) : (rqk all k).length ≤ k := by
  unfold rqk; rw [List.length_map]; refine Nat.le_trans (List.length_filter_le _ _) (by simp)

theorem rdys_keep (ids : List Int) : ∀ S : SchedS, (∀ id ∈ ids, 0 ≤ id) → (S.rdys ids).sl = S.sl ∧ (S.rdys ids).queue = S.queue ++ ids := by
  induction ids with
  | nil => intro S _; simp [SchedS.rdys]
  | cons id ids ih =>
    intro S h
    obtain ⟨h1, h2⟩ := ih (S.rdy id.toNat) (fun j hj => h j (by simp [hj]))
    have h0 := h id (by simp)
    have e : ((id.toNat : Nat) : Int) = id := by omega
    refine ⟨h1, ?_⟩
    show (SchedS.rdys (S.rdy id.toNat) ids).queue = _
    rw [h2]
    simp [SchedS.rdy, e]
theorem WInv.woken {n k : Nat} {wake : Int} {want : List Int} {S : SchedS} (h : WInv n k wake want S) : ∃ S' : SchedS, S.wake wake = ((want.length : Int), S') ∧ S'.all.length = n ∧ S'.queue = S.queue ++ want ∧ S'.sl wake = [] ∧
    S'.wake wake = (0, { S' with sl := upf S'.sl wake [] }) := by
  obtain ⟨h1, h2⟩ := rdys_keep want { S with sl := upf S.sl wake [] } (fun id hid => (h.rng wake id (by rw [h.sl]; exact hid)).1)
  have h3 := (rdys_len want { S with sl := upf S.sl wake [] }).1
  have h4 : (SchedS.rdys { S with sl := upf S.sl wake [] } want).sl wake = [] := by rw [h1]; simp [upf]
  refine ⟨SchedS.rdys { S with sl := upf S.sl wake [] } want, by simp [SchedS.wake, h.sl], by rw [h3]; exact h.len, by rw [h2], h4, ?_⟩
  have h5 : ∀ S' : SchedS, S'.sl wake = [] → S'.wake wake = (0, { S' with sl := upf S'.sl wake [] }) := by intro S' h; simp [SchedS.wake, h, SchedS.rdys]
  exact h5 _ h4

theorem ints_snoc (xs : List Int) (y : Int) : ints (xs ++ [y]) = ints xs ++ [.int .i64 y] := by simp [ints]
def W1 (n len1 : Nat) (wake : Int) (pb : Nat) (w : World) (wv i : Value) (wr : World) : Prop :=
  ∃ (k : Nat) (want : List Int) (S : SchedS), k ≤ n ∧ i = .int .i64 k ∧ WInv n k wake want S ∧ SatL wr (SchedR pb S :: Sl 3 wv (ints want) :: [old w])

section
variable {w : World} {l : List HP} {pb : Nat} {S : SchedS}
theorem state_at (h : SatL w (SchedR pb S :: l)) {i : Nat} {x : Wk} (hx : S.all[i]? = some x) (ha : S.all.length < 1000000) : Calls Try.prog 12 #[.pointer (some ⟨pb, 0, none⟩), .int .i64 i] w (Ret fun v w' => v = .tuple #[.int .i64 x.state, .int .i64 0] ∧ SatL w' (SchedR pb S :: l)) := by
  refine (state_ok h i ha).mono ?_
  rintro e w' ⟨v, rfl, h1, h2⟩
  rw [if_neg (by omega)] at h2
  simp only [Int.toNat_natCast, hx] at h2
  exact ⟨v, rfl, h2, h1⟩

set_option maxRecDepth 100000 in
set_option maxHeartbeats 4000000 in
theorem wakes_walk (a0 : Int) (a1 : Option Addr) (len1 cap1 : Nat) (z1 : List Int) (a2 : Int) (w : World) (w1 : IsInts w a1 len1 cap1 z1) :
    Calls Try.prog 3 #[.int .i64 a0, .slice a1 len1 cap1, .int .i64 a2] w (Ret (BoolPost [old w] true)) := by
  have hk := known_ok (sat_old w)
  have hwi := fun (w1 : World) (h : SatL w1 [old w]) => within_ok a0 12 (by omega) h
  obtain ⟨hb0, hb1⟩ := within_bd a0 12 (by omega)
  have hwj := fun (w1 : World) (l : List HP) (h : SatL w1 l) => within_ok a2 3 (by omega) h
  have hlen := w1.len
  obtain ⟨n, hn⟩ : ∃ n : Nat, 1 + withinI a0 12 = n := ⟨(1 + withinI a0 12).toNat, by omega⟩
  have hn1 : 1 ≤ n ∧ n ≤ 12 := by omega
  have hso := fun (w1 : World) (h : SatL w1 [old w]) => some_ok n (by omega) h
  generalize withinI a0 12 = m at *
  generalize withinI a2 3 = wake at *
  have t0 : True := trivial
  go_enter Try.func3, Try.ntmps3
  go_wp2_with (first
    | (go_at_call 9; (with_reducible refine hk.mono ?_); rintro e w2 ⟨v, rfl, rfl, hs2⟩)
    | (have _t := t0; go_at_call 10; (with_reducible refine (hwi _ hs2).mono ?_); rintro e w3 ⟨v, rfl, rfl, hs3⟩; clear t0)
    | (go_at_call 11; (with_reducible refine (hso _ hs3).mono ?_); rintro e w4 ⟨v, rfl, pb, S, rfl, hS, hs4⟩)
    | (go_at_call 10; (with_reducible refine (hwj _ _ hs4).mono ?_); rintro e w5 ⟨v, rfl, rfl, hs5⟩))
  clear hso hwi hwj hk hb0 hb1 hn
  have hs6 : SatL w5 (SchedR pb S :: Sl 3 (.slice none 0 0) (ints []) :: [old w]) := (Sl_nil (T := 3) hs5).swap
  have hI := WInv.start hS wake
  clear hS hs2 hs3 hs4 hs5
  go_loopw [8, 10] (fun wv i wr => W1 n len1 wake pb w wv i wr) (fun _ i _ => n - (intOf i).toNat)
  case atStart => exact ⟨0, [], S, by omega, rfl, hI, hs6⟩
  case round =>
    obtain ⟨k, want, S, hk, rfl, hI, hs⟩ := hrel
    by_cases hlt : k < n
    · have hj0 : (5 * k + n) % n < n := Nat.mod_lt _ (by omega)
      have hj : (5 * (k : Int) + (n : Int)) % (n : Int) = (((5 * k + n) % n : Nat) : Int) := by push_cast; rfl
      generalize (5 * k + n) % n = j at *
      obtain ⟨x, hx⟩ : ∃ x, S.all[j]? = some x := ⟨_, List.getElem?_eq_getElem (by rw [hI.len]; exact hj0)⟩
      have hst := fun (w' : World) (l : List HP) (h : SatL w' (SchedR pb S :: l)) => state_at h hx (by have := hI.len; omega)
      have hwl : want.length ≤ k := by rw [← hI.sl]; exact hI.few _
      have b1 : ((ints want).length + 1) * 8 ≤ 140737488355328 := by rw [ints_len]; omega
      clear hwl
      rcases Nat.eq_zero_or_pos len1 with h0 | hpos
      · subst h0
        have hsl := fun (w' : World) (l : List HP) (h : SatL w' (SchedR pb S :: l)) => sleep_ok h j 0 (by have := hI.len; omega) (by have := hI.few 0; omega)
        rcases hI.st x (List.mem_of_getElem? hx) with hs1 | hs1
        · obtain ⟨S', e1, hI'⟩ := hI.step' hx hs1 0
          rw [e1] at hsl
          rw [hs1] at hst
          clear e1 hs1 hx
          by_cases hcw : 0 = wake
          · rw [if_pos hcw] at hI'
            subst hcw
            have HI := hid hI'
            clear hI hI'
            go_wp2_with (first
              | (go_at_call 10; (with_reducible refine (hwu _ _ hs).mono ?_); rintro e w3 ⟨v, rfl, rfl, hs3⟩)
              | (go_at_call 12; (with_reducible refine (hst _ _ (by assumption)).mono ?_); rintro e w4 ⟨v, rfl, rfl, hs4⟩)
              | (go_at_call 13; (with_reducible refine (hsl _ _ (by assumption)).mono ?_); rintro e w5 ⟨v, rfl, rfl, hs5⟩; have hs6 := SatL.swap hs5)
              | (at_builtin; refine wpList_push_sl rfl (.tmp 84) (.tmp 86) rfl elem_int (by decide) rfl hs6 rfl rfl b1 ?_; intro v' w6 h6))
            go_roundw
            case rel => exact ⟨k + 1, _, S', by omega, by go_num, HI.out, by rw [ints_snoc]; exact h6.swap⟩
            case measure => simp [intOf]; omega
          · rw [if_neg hcw] at hI'
            have hcw' : (0 == wake) = false := by simpa using hcw
            have HI := hid hI'
            clear hI hI' hcw
            go_wp2_with (first
              | (go_at_call 10; (with_reducible refine (hwu _ _ hs).mono ?_); rintro e w3 ⟨v, rfl, rfl, hs3⟩)
              | (go_at_call 12; (with_reducible refine (hst _ _ (by assumption)).mono ?_); rintro e w4 ⟨v, rfl, rfl, hs4⟩)
              | (go_at_call 13; (with_reducible refine (hsl _ _ (by assumption)).mono ?_); rintro e w5 ⟨v, rfl, rfl, hs5⟩))
            go_roundw
            case rel => exact ⟨k + 1, want, S', by omega, by go_num, HI.out, hs5⟩
            case measure => simp [intOf]; omega
        · obtain ⟨e1, hI'⟩ := hI.busy hx hs1 0
          rw [e1] at hsl
          rw [hs1] at hst
          have HI := hid hI'
          clear e1 hs1 hx hI hI'
          go_wp2_with (first
            | (go_at_call 10; (with_reducible refine (hwu _ _ hs).mono ?_); rintro e w3 ⟨v, rfl, rfl, hs3⟩)
            | (go_at_call 12; (with_reducible refine (hst _ _ (by assumption)).mono ?_); rintro e w4 ⟨v, rfl, rfl, hs4⟩)
            | (go_at_call 13; (with_reducible refine (hsl _ _ (by assumption)).mono ?_); rintro e w5 ⟨v, rfl, rfl, hs5⟩))
          go_roundw
          case rel => exact ⟨k + 1, want, S, by omega, by go_num, HI.out, hs5⟩
          case measure => simp [intOf]; omega
      · obtain ⟨ub, uo, rfl, hu⟩ := w1.at hpos
        have hp0 : k % len1 < len1 := Nat.mod_lt _ hpos
        have hp : (k : Int) % (len1 : Int) = ((k % len1 : Nat) : Int) := by push_cast; rfl
        have hcu := (hs.pull 2 : SatL wr (old w :: _)).oldCell (hu _ hp0)
        generalize k % len1 = p at *
        generalize z1.getD p 0 = u at *
        have hwu := fun (w1 : World) (l : List HP) (h : SatL w1 l) => within_ok u 3 (by omega) h
        generalize withinI u 3 = c at *
        clear hu w1
        have hsl := fun (w' : World) (l : List HP) (h : SatL w' (SchedR pb S :: l)) => sleep_ok h j c (by have := hI.len; omega) (by have := hI.few c; omega)
        rcases hI.st x (List.mem_of_getElem? hx) with hs1 | hs1
        · obtain ⟨S', e1, hI'⟩ := hI.step' hx hs1 c
          rw [e1] at hsl
          rw [hs1] at hst
          clear e1 hs1 hx
          by_cases hcw : c = wake
          · rw [if_pos hcw] at hI'
            subst hcw
            have HI := hid hI'
            clear hI hI'
            go_wp2_with (first
              | (go_at_call 10; (with_reducible refine (hwu _ _ hs).mono ?_); rintro e w3 ⟨v, rfl, rfl, hs3⟩)
              | (go_at_call 12; (with_reducible refine (hst _ _ (by assumption)).mono ?_); rintro e w4 ⟨v, rfl, rfl, hs4⟩)
              | (go_at_call 13; (with_reducible refine (hsl _ _ (by assumption)).mono ?_); rintro e w5 ⟨v, rfl, rfl, hs5⟩; have hs6 := SatL.swap hs5)
              | (at_builtin; refine wpList_push_sl rfl (.tmp 84) (.tmp 86) rfl elem_int (by decide) rfl hs6 rfl rfl b1 ?_; intro v' w6 h6))
            go_roundw
            case rel => exact ⟨k + 1, _, S', by omega, by go_num, HI.out, by rw [ints_snoc]; exact h6.swap⟩
            case measure => simp [intOf]; omega
          · rw [if_neg hcw] at hI'
            have hcw' : (c == wake) = false := by simpa using hcw
            have HI := hid hI'
            clear hI hI' hcw
            go_wp2_with (first
              | (go_at_call 10; (with_reducible refine (hwu _ _ hs).mono ?_); rintro e w3 ⟨v, rfl, rfl, hs3⟩)
              | (go_at_call 12; (with_reducible refine (hst _ _ (by assumption)).mono ?_); rintro e w4 ⟨v, rfl, rfl, hs4⟩)
              | (go_at_call 13; (with_reducible refine (hsl _ _ (by assumption)).mono ?_); rintro e w5 ⟨v, rfl, rfl, hs5⟩))
            go_roundw
            case rel => exact ⟨k + 1, want, S', by omega, by go_num, HI.out, hs5⟩
            case measure => simp [intOf]; omega
        · obtain ⟨e1, hI'⟩ := hI.busy hx hs1 c
          rw [e1] at hsl
          rw [hs1] at hst
          have HI := hid hI'
          clear e1 hs1 hx hI hI'
          go_wp2_with (first
            | (go_at_call 10; (with_reducible refine (hwu _ _ hs).mono ?_); rintro e w3 ⟨v, rfl, rfl, hs3⟩)
            | (go_at_call 12; (with_reducible refine (hst _ _ (by assumption)).mono ?_); rintro e w4 ⟨v, rfl, rfl, hs4⟩)
            | (go_at_call 13; (with_reducible refine (hsl _ _ (by assumption)).mono ?_); rintro e w5 ⟨v, rfl, rfl, hs5⟩))
          go_roundw
          case rel => exact ⟨k + 1, want, S, by omega, by go_num, HI.out, hs5⟩
          case measure => simp [intOf]; omega
    · obtain rfl : k = n := by omega
      obtain ⟨wa, wc, rfl, hw1, hw2⟩ := Sl.valn (hs.pull 1 : SatL wr (Sl _ _ _ :: _)) (m := want.length) (ints_len _)
      have hwl : want.length ≤ k := by rw [← hI.sl]; exact hI.few _
      have Hlen := hid hI.len
      go_wp2
      obtain ⟨wo, rfl⟩ : ∃ wo : World, wo = wr := ⟨_, rfl⟩
      go_loopw [9, 16] (fun lv i wr => ∃ k2 : Nat, k2 ≤ k ∧ i = .int .i64 k2 ∧ SatL wr (SchedR pb S :: Sl 3 lv (ints (rqk S.all k2)) :: Sl 3 (.slice wa want.length wc) (ints want) :: [old w])) (fun _ i _ => k - (intOf i).toNat)
      case atStart => exact ⟨0, by omega, rfl, (Sl_nil (T := 3) hs).swap⟩
      case round =>
        obtain ⟨k2, hk2, rfl, hs2⟩ := hrel
        by_cases hlt2 : k2 < k
        · obtain ⟨x, hx⟩ : ∃ x, S.all[k2]? = some x := ⟨_, List.getElem?_eq_getElem (by rw [hI.len]; exact hlt2)⟩
          have hst := state_at hs2 hx (by have := hI.len; omega)
          have hrq := rqk_succ hx
          have b1 : ((ints (rqk S.all k2)).length + 1) * 8 ≤ 140737488355328 := by rw [ints_len]; have := rqk_len S.all k2; omega
          rcases hI.st x (List.mem_of_getElem? hx) with hs1 | hs1
          · rw [if_pos hs1] at hrq
            rw [hs1] at hst
            have Hrq := hid hrq
            clear hrq hs1 hx
            go_wp2_with (first
              | (go_at_call 12; (with_reducible refine hst.mono ?_); rintro e w4 ⟨v, rfl, rfl, hs4⟩; have hs5 := SatL.swap hs4)
              | (at_builtin; refine wpList_push_sl rfl (.tmp 101) (.tmp 103) rfl elem_int (by decide) rfl hs5 rfl rfl b1 ?_; intro v' w6 h6))
            go_roundw
            case rel => exact ⟨k2 + 1, by omega, by go_num, by rw [Hrq.out, ints_snoc]; exact h6.swap⟩
            case measure => simp [intOf]; omega
          · rw [if_neg (by omega)] at hrq
            rw [hs1] at hst
            have Hrq := hid hrq
            clear hrq hs1 hx
            go_wp2_with (first
              | (go_at_call 12; (with_reducible refine hst.mono ?_); rintro e w4 ⟨v, rfl, rfl, hs4⟩))
            go_roundw
            case rel => exact ⟨k2 + 1, by omega, by go_num, by rw [Hrq.out]; exact hs4⟩
            case measure => simp [intOf]; omega
        · obtain rfl : k2 = k := by omega
          obtain ⟨S2, e1, hl2, hq2, hsl2, e2⟩ := hI.woken
          have hrl := rqk_len S.all k2
          obtain ⟨la, lc, rfl, hl3, hl4⟩ := Sl.valn (hs2.pull 1 : SatL _ (Sl _ _ _ :: _)) (m := (rqk S.all k2).length) (ints_len _)
          have hwk1 := wake_ok hs2 wake (by have := hI.len; omega) (by rw [hI.sl, hI.q]; omega) (fun id hid => by have := hI.rng _ id hid; rw [hI.len]; exact this)
          have hwk2 := fun (w' : World) (l : List HP) (h : SatL w' (SchedR pb S2 :: l)) => wake_ok h wake (by omega) (by rw [hsl2, hq2, hI.q]; simp; omega) (by rw [hsl2]; simp)
          rw [e1] at hwk1
          simp only [e2] at hwk2
          have hq3 := fun (w' : World) (l : List HP) (h : SatL w' (SchedR pb { S2 with sl := upf S2.sl wake [] } :: l)) => queue_ok h (by show S2.queue.length < _; rw [hq2, hI.q]; simp; omega)
          have hq4 : ({ S2 with sl := upf S2.sl wake [] } : SchedS).queue = rqk S.all k2 ++ want := by show S2.queue = _; rw [hq2, hI.q]
          generalize ({ S2 with sl := upf S2.sl wake [] } : SchedS) = S3 at *
          simp only [hq4] at hq3
          generalize rqk S.all k2 = L at *
          have HL : (ints (L ++ want)).length = L.length + want.length := by simp [ints]
          clear hI e1 hl2 hq2 hsl2 e2 hq4
          have t0 : True := trivial
          go_wp2_with (first
            | (have _t := t0; go_at_call 14; (with_reducible refine hwk1.mono ?_); rintro e w3 ⟨v, rfl, rfl, hs3⟩; clear t0)
            | (go_at_call 14; (with_reducible refine (hwk2 _ _ hs3).mono ?_); rintro e w4 ⟨v, rfl, rfl, hs4⟩)
            | (go_at_call 15; (with_reducible refine (hq3 _ _ hs4).mono ?_); rintro e w5 ⟨v, rfl, hs5⟩; obtain ⟨qa, qc, rfl, hq5, hq6⟩ := Sl.valn hs5 HL))
          clear hwk1 hwk2 hq3 hs2 hs3 hs4
          obtain ⟨wo2, rfl⟩ : ∃ wo : World, wo = w5 := ⟨_, rfl⟩
          go_loopw [20] (fun i wr => ∃ j : Nat, j ≤ want.length ∧ i = .int .i64 j ∧ SatL wr (Sl 3 (.slice qa (L.length + want.length) qc) (ints (L ++ want)) :: SchedR pb S3 :: Sl 3 (.slice la L.length lc) (ints L) :: Sl 3 (.slice wa want.length wc) (ints want) :: [old w])) (fun i _ => want.length - (intOf i).toNat)
          case atStart => exact ⟨0, by omega, rfl, hs5⟩
          case round =>
            obtain ⟨j, hj, rfl, hs6⟩ := hrel
            by_cases hjl : j < want.length
            · obtain ⟨qb, qo, rfl⟩ := Sl.addr hs6 (by omega)
              obtain ⟨wb, wof, rfl⟩ := Sl.addr (hs6.pull 3 : SatL _ (Sl _ _ _ :: _)) (by omega)
              obtain ⟨y, hy⟩ : ∃ y, want[j]? = some y := ⟨_, List.getElem?_eq_getElem hjl⟩
              have q1 := Sl.cell (hs6.pull 3 : SatL _ (Sl _ _ _ :: _)) (i := j) (x := .int .i64 y) (by rw [ints, List.getElem?_map, hy]; rfl)
              have q2 := Sl.cell hs6 (i := L.length + j) (x := .int .i64 y) (by rw [ints, List.getElem?_map, List.getElem?_append_right (by omega)]; simp [hy])
              clear hy
              go_wp2
              go_quiet (fail)
              go_wp2
              go_roundw
              case rel => exact ⟨j + 1, by omega, by go_num, hs6⟩
              case measure => simp [intOf]; omega
            · go_wp2
              go_ret
              exact Ret.mk ⟨rfl, hs6.to⟩
end
end Go.Proofs.Ytcehhkhcofokkaa
