/- The document's cache that is owned: use, New, Held, room, bad. No condition beside the sizes that each names. -/
import Derived.Test.YtlmjjfgnpcghgaaRefCache
namespace Go.Proofs.Ytlmjjfgnpcghgaa
set_option linter.unusedVariables false
set_option linter.unusedSimpArgs false
open Go.RowKit
section
variable {w : World} {l : List HP} {xb : Nat} {most : Int} {row : List Ent} {rv : Value}
set_option maxRecDepth 100000 in
set_option maxHeartbeats 1000000 in
theorem refuse_ok {xe : Nat} (h : SatL w (RCacheO xb most rv row l)) (hlen : row.length ≤ 100000) (gx : Gives (RR row :: l) (RBlk xe)) :
    Calls Try.prog 45 #[.pointer (some ⟨xb, 0, none⟩), .pointer (some ⟨xe, 0, none⟩)] w (Ret fun v w' => v = .tuple #[] ∧ ∃ rv', SatL w' (RCacheC xb most rv' :: Sl 70 rv' ((outE row xe).map eptr ++ [.pointer (some ⟨xe, 0, none⟩)]) :: RR row :: l)) := by
  have k1 := refgone_ok (xe := xe) h hlen gx
  have hol : ((outE row xe).map eptr).length ≤ 100000 := by rw [List.length_map]; have := outE_len row row.length xe; rw [List.take_length] at this; omega
  have b1 : (((outE row xe).map eptr).length + 1) * 8 ≤ 140737488355328 := by omega
  clear h gx
  generalize hOL : (outE row xe).map eptr = OL at *
  have k1' : Calls Try.prog 48 #[.pointer (some ⟨xb, 0, none⟩), .pointer (some ⟨xe, 0, none⟩)] w (Ret fun v w' => v = .tuple #[] ∧ ∃ rv', SatL w' (RCacheC xb most rv' :: Sl 70 rv' OL :: RR row :: l)) := by
    refine k1.mono ?_
    rintro e w' ⟨v, rfl, rfl, rv', h2⟩
    exact Ret.mk ⟨rfl, rv', by rw [← hOL]; exact h2⟩
  clear k1 hOL
  go_enter Try.func45, Try.ntmps45
  go_wp2_with (first
    | (go_at_call 48; (with_reducible refine k1'.mono ?_); rintro e w2 ⟨v, rfl, rfl, rv2, h2⟩; obtain ⟨a2, n2, c2, rfl⟩ := Sl.val (h2.pull 1 : SatL w2 (Sl _ _ _ :: _)); have c1 : w2.cell? ⟨xb, 1, none⟩ = some (.slice a2 n2 c2) := h2.cell (i := 1) rfl; have hp := (h2.pull 1 : SatL w2 (Sl _ _ _ :: _)))
    | (at_builtin; refine wpList_push_sl rfl (.tmp 11) (.tmp 13) rfl elem_rptr (by decide) rfl hp rfl rfl b1 ?_; intro v5 w5 h5; obtain ⟨a5, n5, c5, rfl⟩ := Sl.val h5; have f1 := (h5.pull 1 : SatL w5 (cl _ _ _ :: _)).free 1; have d1 : w5.cell? ⟨xb, 1, none⟩ = some (.slice a2 n2 c2) := (h5.pull 1 : SatL w5 (cl _ _ _ :: _)).cell (i := 1) rfl; have h6 := (h5.pull 1 : SatL w5 (cl _ _ _ :: _)).set (i := 1) (.slice a5 n5 c5)))
  go_end0
  exact Ret.mk ⟨rfl, _, h6⟩
set_option maxRecDepth 100000 in
theorem refnew_yes {n : Int} (hn : 1 ≤ n ∧ n ≤ 1024) (h : SatL w l) :
    Calls Try.prog 18 #[.int .i64 n] w (Ret fun v w' => ∃ xb, v = .tuple #[.pointer (some ⟨xb, 0, none⟩), .int .i64 0] ∧ SatL w' (RCacheR xb n [] :: l)) := by
  obtain ⟨h1, h2⟩ := hn
  have h3 : ¬ n < 1 := by omega
  have h4 : ¬ 1024 < n := by omega
  go_enter Try.func18, Try.ntmps18
  go_wp2
  go_ret2
  refine Ret.mk ⟨_, rfl, RCache_open.2 ⟨.slice none 0 0, List.nodup_nil, ?_⟩⟩
  have h5 := h.alloc (.cells #[.int .i64 n, .slice none 0 0] 63)
  exact (big_nil.2 (Sl_nil (T := 70) h5)).bring [2, 1, 0]
set_option maxRecDepth 100000 in
theorem refnew_no {n : Int} (hn : ¬ (1 ≤ n ∧ n ≤ 1024)) (w : World) :
    Calls Try.prog 18 #[.int .i64 n] w (Ret fun v w' => v = .tuple #[.pointer none, .int .i64 1] ∧ w = w') := by
  by_cases h3 : n < 1
  · clear hn
    go_enter Try.func18, Try.ntmps18
    go_wp2
    go_ret2
    exact Ret.mk ⟨rfl, rfl⟩
  · have h4 : 1024 < n := by omega
    clear hn
    go_enter Try.func18, Try.ntmps18
    go_wp2
    go_ret2
    exact Ret.mk ⟨rfl, rfl⟩
set_option maxRecDepth 100000 in
theorem refbad_ok (k : Int) (a : Option Addr) (n c : Nat) (hn : n ≤ 9223372036854775807) (w : World) :
    Calls Try.prog 46 #[.int .i64 k, .slice a n c] w (Ret fun v w' => v = .int .i64 (if k < 0 then 1 else if n = 512 then 0 else 14) ∧ w = w') := by
  by_cases h1 : k < 0
  · rw [if_pos h1]
    go_enter Try.func46, Try.ntmps46
    go_wp2
    go_ret
    exact Ret.mk ⟨rfl, rfl⟩
  · rw [if_neg h1]
    by_cases h2 : n = 512
    · rw [if_pos h2]
      have h3 : ((n : Int) == 512) = true := by simp; omega
      have h4 : (n : Int) = 512 := by omega
      subst h2
      go_enter Try.func46, Try.ntmps46
      go_wp2
      go_ret
      exact Ret.mk ⟨rfl, rfl⟩
    · rw [if_neg h2]
      have h3 : ((n : Int) == 512) = false := by simp; omega
      go_enter Try.func46, Try.ntmps46
      go_wp2
      go_ret
      exact Ret.mk ⟨rfl, rfl⟩
set_option maxRecDepth 100000 in
set_option maxHeartbeats 1000000 in
theorem refheld_ok (h : SatL w (RCacheR xb most row :: l)) (hlen : row.length ≤ 100000) :
    Calls Try.prog 21 #[.pointer (some ⟨xb, 0, none⟩)] w (Ret (SlPost 3 ((row.map (·.b)).map (Value.int .i64)) (RCacheR xb most row :: l))) := by
  obtain ⟨rv, hnd, h0⟩ := RCache_open.1 h
  obtain ⟨a, c, rfl, ha1, ha2⟩ := Sl.valn (h0.pull 1 : SatL w (Sl _ _ _ :: _)) (m := row.length) (List.length_map _)
  have hc1 := hid (fun (w' : World) (X : List HP) (h : SatL w' (RCacheC xb most (.slice a row.length c) :: X)) => h.cell (i := 1) (v := .slice a row.length c) rfl)
  have c1 := hc1.out _ _ h0
  have H := hid h0
  clear h h0
  go_enter Try.func21, Try.ntmps21
  go_wp2
  go_loopw [3, 4] (fun lv i wr => ∃ j : Nat, j ≤ row.length ∧ i = .int .i64 j ∧ SatL wr (Sl 3 lv (((row.map (·.b)).take j).map (Value.int .i64)) :: RCacheO xb most (.slice a row.length c) row l)) (fun _ i _ => row.length - (intOf i).toNat)
  case atStart => exact ⟨0, by omega, rfl, Sl_nil H.out⟩
  case round =>
    clear H c1
    obtain ⟨j, hj, rfl, hs⟩ := hrel
    have c1 := hc1.out _ _ (hs.pull 1)
    obtain ⟨oa, on, oc, rfl⟩ := Sl.val hs
    by_cases hlt : j < row.length
    · have hjz : (j : Int) < row.length := by omega
      obtain ⟨x, hx⟩ : ∃ x, row[j]? = some x := ⟨_, List.getElem?_eq_getElem hlt⟩
      obtain ⟨b, o, rfl, cp⟩ := rptr_cell hx (hs.pull 2)
      obtain ⟨e0, _, _, _⟩ := rcells hx (hs.pull 3)
      have Hsn := hid (show ((row.map (·.b)).take j).map (Value.int .i64) ++ [.int .i64 x.b] = ((row.map (·.b)).take (j + 1)).map (Value.int .i64) by
        rw [List.take_add_one, List.getElem?_map, hx]; simp)
      have hln : (((row.map (·.b)).take j).map (Value.int .i64)).length ≤ 100000 := by rw [List.length_map, List.length_take]; omega
      have b1 : ((((row.map (·.b)).take j).map (Value.int .i64)).length + 1) * 8 ≤ 140737488355328 := by omega
      clear hx
      generalize x.b = e at *
      generalize ((row.map (·.b)).take j).map (Value.int .i64) = OL at *
      go_wp2_with (at_builtin; refine wpList_push_sl rfl (.tmp 14) (.tmp 25) rfl elem_int (by decide) rfl hs rfl rfl b1 ?_; intro v5 w5 h5; rw [Hsn.out] at h5)
      go_roundw
      case rel => exact ⟨j + 1, by omega, by go_num, h5⟩
      case measure => simp [intOf]; omega
    · obtain rfl : j = row.length := by omega
      rw [List.take_of_length_le (by rw [List.length_map]; exact Nat.le_refl _)] at hs
      have H2 := hid (SatL.swap (RCache_open.2 ⟨_, hnd, hs.bring [1, 2, 3, 0]⟩ : SatL wr (RCacheR xb most row :: _)))
      clear hs
      go_wp2
      go_ret
      exact Ret.mk H2.out
end
end Go.Proofs.Ytlmjjfgnpcghgaa
