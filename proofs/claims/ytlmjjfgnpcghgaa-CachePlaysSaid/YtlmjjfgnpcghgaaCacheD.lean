/- New, free, room, lay, Get, Fill, Put, Drop, Held of a cache that is owned. -/
import Derived.Test.YtlmjjfgnpcghgaaCacheC
namespace Go.Proofs.Ytlmjjfgnpcghgaa
set_option linter.unusedVariables false
set_option linter.unusedSimpArgs false
open Go.RowKit

def isFree (x : Ent) : Bool := !x.dirty && x.pins == 0

section
variable {w : World} {l : List HP} {pb : Nat} {most : Int} {row : List Ent}

theorem free_ok {x : Ent} (h : SatL w (EntC x :: l)) : Calls Try.prog 30 #[.pointer (some ⟨x.eb, 0, none⟩)] w (Ret (BoolPost (EntC x :: l) (isFree x))) := by
  have c1 := h.cell (i := 1) rfl
  have c2 := h.cell (i := 2) rfl
  cases hd : x.dirty with
  | true =>
    have Hq := hid (show isFree x = false by simp [isFree, hd])
    simp only [hd, List.getElem_toArray, List.getElem_cons_succ, List.getElem_cons_zero] at c1
    clear hd
    go_enter Try.func30, Try.ntmps30
    go_wp2
    go_ret
    exact Ret.mk ⟨by rw [Hq.out]; rfl, h⟩
  | false =>
    have Hq := hid (show isFree x = (x.pins == 0) by simp [isFree, hd])
    simp only [hd, List.getElem_toArray, List.getElem_cons_succ, List.getElem_cons_zero] at c1
    clear hd
    go_enter Try.func30, Try.ntmps30
    go_wp2
    go_ret
    exact Ret.mk ⟨by rw [Hq.out]; rfl, h⟩

theorem new_ok (n : Int) (h : SatL w l) : Calls Try.prog 9 #[.int .i64 n] w
    (Ret fun v w' => if n < 1 ∨ 1024 < n then v = .tuple #[.pointer none, .int .i64 1] ∧ SatL w' l else ∃ pb, v = .tuple #[.pointer (some ⟨pb, 0, none⟩), .int .i64 0] ∧ SatL w' (CacheR pb n [] :: l)) := by
  by_cases h1 : n < 1
  · simp only [h1, true_or, if_true]
    go_enter Try.func9, Try.ntmps9
    go_wp2
    go_ret2
    exact Ret.mk ⟨rfl, h⟩
  · by_cases h2 : 1024 < n
    · simp only [h1, h2, or_true, if_true]
      go_enter Try.func9, Try.ntmps9
      go_wp2
      go_ret2
      exact Ret.mk ⟨rfl, h⟩
    · simp only [h1, h2, or_self, if_false]
      have hmm := @run_makeMap Try.prog
      go_enter Try.func9, Try.ntmps9
      go_wp2
      go_ret2
      refine Ret.mk ⟨w.heap.size + 1, rfl, Cache_open.2 ⟨.slice none 0 0, w.heap.size, [], ⟨fun k => rfl, by simp⟩, ?_⟩⟩
      have h3 := MapI.made (h.alloc (.map #[] 0))
      have h4 := h3.allocN (n := w.heap.size + 1) (.cells #[.int .i64 n, .slice none 0 0, .map (some w.heap.size)] 53) (by simp)
      exact (Sl_nil (T := 54) (big_nil (f := EntR).2 (h4.bring [0, 1]))).bring [2, 0, 3, 1]

/-- what stands behind 'room' -/
def roomS (most : Int) (row : List Ent) : Int × List Ent := if (row.length : Int) < most then (0, row) else match row.find? isFree with
  | none => (7, row)
  | some x => (0, without row x.b)

def freeT (row : List Ent) (v : Value) : Bool := match v with | .pointer (some a) => (row.find? (fun x => x.eb == a.block)).any isFree | _ => false

theorem eb_nodup {row : List Ent} (h : SatL w (ER row :: l)) : (row.map (·.eb)).Nodup := by
  induction row generalizing l w with
  | nil => simp
  | cons x row ih =>
    have h1 := big_cons.1 h
    rw [List.map_cons, List.nodup_cons]
    refine ⟨?_, ih h1.tail⟩
    intro hm
    obtain ⟨y, hy, he⟩ := List.mem_map.1 hm
    exact ER_apart (r1 := []) (r2 := row) h (by simpa using hy) he

theorem find_eb {row : List Ent} (hn : (row.map (·.eb)).Nodup) {x : Ent} (hx : x ∈ row) : row.find? (fun y => y.eb == x.eb) = some x := by
  induction row with
  | nil => simp at hx
  | cons y row ih =>
    rw [List.map_cons, List.nodup_cons] at hn
    rw [List.find?_cons]
    rcases List.mem_cons.1 hx with rfl | hx
    · simp
    · have : (y.eb == x.eb) = false := by
        simp only [beq_eq_false_iff_ne]
        intro e; exact hn.1 (by rw [e]; exact List.mem_map.2 ⟨x, hx, rfl⟩)
      rw [this]; exact ih hn.2 hx

theorem freeT_eptr {row : List Ent} (hn : (row.map (·.eb)).Nodup) {x : Ent} (hx : x ∈ row) : freeT row (eptr x) = isFree x := by
  have := find_eb hn hx
  simp [freeT, eptr, this]

theorem idx_free {row : List Ent} (hn : (row.map (·.eb)).Nodup) : ∀ (part : List Ent) (k : Nat), (∀ x ∈ part, x ∈ row) → (part.find? isFree = none ∧ idx (freeT row) (part.map eptr) k = -1) ∨
    ∃ r1 x r2, part = r1 ++ x :: r2 ∧ part.find? isFree = some x ∧ idx (freeT row) (part.map eptr) k = ((k + r1.length : Nat) : Int)
  | [], k, _ => .inl ⟨rfl, rfl⟩
  | y :: part, k, h => by
    have hy := freeT_eptr hn (h y (by simp))
    by_cases hf : isFree y
    · exact .inr ⟨[], y, part, rfl, by simp [hf], by simp [idx, hy, hf]⟩
    · rcases idx_free hn part (k + 1) (fun x hx => h x (by simp [hx])) with ⟨a, b⟩ | ⟨r1, x, r2, a, b, c⟩
      · exact .inl ⟨by simp [hf, a], by simp [idx, hy, hf, b]⟩
      · exact .inr ⟨y :: r1, x, r2, by simp [a], by simp [hf, b], by simp [idx, hy, hf, c]; omega⟩

theorem free_asks {rv : Value} {l' : List HP} (hn : (row.map (·.eb)).Nodup) {P0 : HP} : Asks Try.prog 30 #[] (freeT row) (row.map eptr) (P0 :: ER row :: l') := by
  intro v hv w h
  obtain ⟨x, hx, rfl⟩ := List.mem_map.1 hv
  obtain ⟨a, b, rfl⟩ := List.append_of_mem hx
  rw [freeT_eptr hn hx]
  have h1 := EntR_open.1 (big_mid.1 (h.pull 1 : SatL w (ER _ :: _)))
  refine (free_ok h1).mono ?_
  rintro e w' ⟨v, rfl, rfl, h2⟩
  exact Ret.mk ⟨rfl, (big_mid.2 (EntR_open.2 h2) : SatL w' (ER _ :: _)).swap⟩

set_option maxHeartbeats 1000000 in
theorem room_ok (h : SatL w (CacheR pb most row :: l)) (hlen : row.length ≤ 100000) (hmost : 0 ≤ most ∧ most ≤ 100000) :
    Calls Try.prog 42 #[.pointer (some ⟨pb, 0, none⟩)] w (Ret (CPost pb most l (roomS most row))) := by
  obtain ⟨rv, mb, es, hm, h⟩ := Cache_open.1 h
  have hn := eb_nodup (h.pull 3 : SatL w (ER _ :: _))
  have c0 : w.cell? ⟨pb, 0, none⟩ = some (.int .i64 most) := h.cell (i := 0) rfl
  have c1 : w.cell? ⟨pb, 1, none⟩ = some rv := h.cell (i := 1) rfl
  obtain ⟨a, n, c, rfl⟩ := Sl.val (h.pull 1)
  obtain ⟨hnl, hnc, hcm⟩ := Sl.lenEq (h.pull 1)
  rw [List.length_map] at hnl
  have hn0 : n ≤ 100000 := by omega
  by_cases hroom : (row.length : Int) < most
  · have Hq := hid (show roomS most row = (0, row) by simp [roomS, hroom])
    have hlt : (n : Int) < most := by omega
    clear hnl hroom hnc hcm
    go_enter Try.func42, Try.ntmps42
    go_wp2
    go_quiet (fail)
    go_wp2
    go_ret
    exact Ret.mk (by rw [Hq.out]; exact ⟨rfl, Cache_open.2 ⟨_, _, _, hm, h⟩⟩)
  · have hlt : ¬ (n : Int) < most := by omega
    have hi := fun nq => indexFunc_ent 30 #[] (freeT row) _ (row.map eptr) (ER row :: CacheC pb most (.slice a n c) mb :: MapI mb es :: l) (w.drewN nq) (h.bring [1, 3, 0, 2]) (fun args w => by kernel_rfl) (free_asks (rv := .nilIface) hn)
    rcases idx_free hn row 0 (fun x hx => hx) with ⟨g1, g2⟩ | ⟨r1, x, r2, g1, g2, g3⟩
    · have Hq := hid (show roomS most row = (7, row) by simp [roomS, hroom, g1])
      rw [g2] at hi
      clear hnl hroom hnc hcm g1 g2
      go_enter Try.func42, Try.ntmps42
      go_wp2
      go_quiet (fail)
      go_wp2_with (go_at_call 51; (with_reducible refine (hi _).mono ?_); rintro e w' ⟨v, rfl, rfl, hs'⟩)
      go_ret
      refine Ret.mk ?_
      rw [Hq.out]
      exact ⟨rfl, Cache_open.2 ⟨_, _, _, hm, SatL.bring hs' [2, 0, 3, 1]⟩⟩
    · subst g1
      have Hq := hid (show roomS most (r1 ++ x :: r2) = (0, r1 ++ r2) by
        have hns := hm.nodup
        obtain ⟨q1, q2⟩ : (∀ y ∈ r1, ¬ y.b = x.b) ∧ (∀ y ∈ r2, ¬ y.b = x.b) := by
          simp only [List.map_append, List.map_cons] at hns
          have hp := (List.perm_middle.nodup_iff).1 hns
          rw [List.nodup_cons] at hp
          exact ⟨fun y hy e => hp.1 (by rw [← e]; exact List.mem_append_left _ (List.mem_map.2 ⟨y, hy, rfl⟩)), fun y hy e => hp.1 (by rw [← e]; exact List.mem_append_right _ (List.mem_map.2 ⟨y, hy, rfl⟩))⟩
        simp only [roomS, hroom, if_false, g2, without_mid q1 q2])
      rw [g3] at hi
      simp only [Nat.zero_add] at hi
      have hr : r1.length < n := by rw [hnl]; simp
      have hx : ((r1 ++ x :: r2).map eptr)[r1.length]? = some (eptr x) := by simp
      generalize r1.length = q at *
      have hlo := fun (w' : World) (h : SatL w' (CacheR pb most (r1 ++ x :: r2) :: l)) => lose_ok h
      clear hnl hroom hnc hcm g2 g3
      obtain ⟨b, off, cap, hv⟩ : ∃ b off cap, Value.slice a n c = .slice (some ⟨b, off, none⟩) n cap := by
        rcases Sl.form (h.pull 1) with ⟨e1, e2⟩ | ⟨b, off, cap, e1, _⟩
        · cases e1; omega
        · cases e1; exact ⟨_, _, _, rfl⟩
      cases hv
      go_enter Try.func42, Try.ntmps42
      go_wp2
      go_quiet (fail)
      go_wp2_with (first
        | (go_at_call 51; (with_reducible refine (hi _).mono ?_); rintro e w' ⟨v, rfl, rfl, hs'⟩; have c2 : w'.cell? ⟨pb, 1, none⟩ = some (.slice (some ⟨b, off, none⟩) n c) := (SatL.bring hs' [2] : SatL w' (CacheC _ _ _ _ :: _)).cell (i := 1) rfl; have cx := Sl.cell hs' hx)
        | (go_at_call 31; refine (hlo _ (Cache_open.2 ⟨_, _, _, hm, SatL.bring hs' [2, 0, 3, 1]⟩)).mono ?_; rintro e w2 ⟨v, rfl, rfl, hs2⟩))
      go_ret
      exact Ret.mk (by rw [Hq.out]; exact ⟨rfl, hs2⟩)
end
end Go.Proofs.Ytlmjjfgnpcghgaa
