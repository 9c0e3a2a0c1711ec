/- CacheOldest: for every input it returns true and writes nothing that was there. No condition. -/
import Derived.Test.YtlmjjfgnpcghgaaCacheK
namespace Go.Proofs.Ytlmjjfgnpcghgaa
open Go.RowKit
set_option linter.unusedVariables false

def IsInts (w : World) (a : Option Addr) (len cap : Nat) (zs : List Int) : Prop :=
  (a = none ∧ len = 0 ∧ cap = 0 ∧ zs = []) ∨
  ∃ x, a = some x ∧ len ≤ cap ∧ cap ≤ maxLen ∧ zs.length = cap ∧ (∀ i, i < zs.length → w.cell? (x.add i) = some (.int .i64 (zs.getD i 0))) ∧ ∀ n ∈ zs, (Lit.int .i64 n).wf = true

theorem IsInts.at {w : World} {a : Option Addr} {len cap : Nat} {zs : List Int} (h : IsInts w a len cap zs) (hl : 0 < len) :
    ∃ b o, a = some ⟨b, o, none⟩ ∧ ∀ i, i < len → w.cell? ⟨b, o + i, none⟩ = some (.int .i64 (zs.getD i 0)) := by
  rcases h with ⟨_, h, _⟩ | ⟨⟨b, o, s⟩, rfl, h1, _, h2, h3, _⟩
  · omega
  · have h0 := h3 0 (by omega)
    have hs : s = none := by
      cases s with
      | none => rfl
      | some q => simp [Addr.add, World.cell?] at h0; split at h0 <;> simp at h0
    subst hs
    exact ⟨b, o, rfl, fun i hi => by rw [← addr_add]; exact h3 i (by omega)⟩

abbrev ivs (ks : List Int) : List Value := ks.map (Value.int .i64)
def drop1 (n : Int) (ks : List Int) : List Int := if (ks.length : Int) < n then ks else ks.tail
def rest (ks : List Int) (k : Int) : List Int := ks.filter fun x => !(x == k)

theorem zb_find (ks : List Int) (k : Int) : (ks.map zb).find? (bhas k) = if k ∈ ks then some (zb k) else none := by
  induction ks with
  | nil => rfl
  | cons j ks ih =>
    rw [List.map_cons, List.find?_cons]
    by_cases h : j = k
    · subst h; simp [bhas, zb]
    · have : bhas k (zb j) = false := by simp [bhas, zb, h]
      rw [this, ih]
      have h' : ¬ k = j := fun e => h e.symm
      simp [h']
theorem zb_without (ks : List Int) (k : Int) : bwithout (ks.map zb) k = (rest ks k).map zb := by
  unfold bwithout rest; rw [List.filter_map]; rfl
theorem get_zb (ks : List Int) (k : Int) : bget (ks.map zb) k = if k ∈ ks then (0, (rest ks k ++ [k]).map zb) else (17, ks.map zb) := by
  unfold bget
  rw [zb_find]
  by_cases h : k ∈ ks
  · simp only [h, if_true]; rw [zb_without]; simp
  · simp only [h, if_false]
theorem rest_not (ks : List Int) (k : Int) (h : ¬ k ∈ ks) : rest ks k = ks := by
  unfold rest; rw [List.filter_eq_self]; intro x hx
  have : ¬ x = k := fun e => h (e ▸ hx)
  simpa using this
theorem rest_lt (ks : List Int) (k : Int) (hn : ks.Nodup) (h : k ∈ ks) : (rest ks k).length + 1 = ks.length := by
  induction ks with
  | nil => simp at h
  | cons j ks ih =>
    rw [List.nodup_cons] at hn
    by_cases hj : j = k
    · subst hj
      have := rest_not ks j hn.1
      unfold rest at *
      simp [this]
    · have hk : k ∈ ks := by rcases List.mem_cons.1 h with e | h; exact absurd e.symm hj; exact h
      have := ih hn.2 hk
      unfold rest at *
      simp [hj]; omega
theorem fill_zb (n : Int) (ks : List Int) (k : Int) (hk : 0 ≤ k) (h : ¬ k ∈ ks) (hn : ks.Nodup) (h1 : 1 ≤ n) : bfill n (ks.map zb) k zeros = (0, (drop1 n ks ++ [k]).map zb) := by
  rw [bfill_zeros n _ k hk (by rw [zb_find, if_neg h])]
  have hb : broom n (ks.map zb) = (0, (drop1 n ks).map zb) := by
    unfold broom drop1
    rw [List.length_map]
    by_cases hl : (ks.length : Int) < n
    · simp [hl]
    · simp only [hl, if_false]
      cases ks with
      | nil => simp at hl; omega
      | cons j ks =>
        rw [List.nodup_cons] at hn
        have : bfree (zb j) = true := rfl
        simp only [List.map_cons, List.find?_cons, this]
        have h2 := zb_without (j :: ks) j
        rw [List.map_cons] at h2
        rw [show (zb j).b = j from rfl, h2]
        have h3 : rest (j :: ks) j = ks := by
          have := rest_not ks j hn.1
          unfold rest at *
          simp [this]
        rw [h3]; rfl
  rw [hb]; simp

def OldRel (len1 : Nat) (n : Int) (pb bb : Nat) (w : World) (rv i : Value) (wr : World) : Prop :=
  ∃ (k : Nat) (ks : List Int), k ≤ len1 ∧ i = .int .i64 k ∧ ks.length ≤ n ∧ ks.Nodup ∧ SatL wr (CacheA pb n (ks.map zb) :: Sl 5 (.slice (some ⟨bb, 0, none⟩) 512 512) zeros :: Sl 3 rv (ivs ks) :: [old w])

section
variable {w : World}

set_option maxRecDepth 100000 in
set_option maxHeartbeats 4000000 in
theorem oldest_walk (a0 : Int) (a1 : Option Addr) (len1 cap1 : Nat) (z1 : List Int) (w : World) (w1 : IsInts w a1 len1 cap1 z1) :
    Calls Try.prog 3 #[.int .i64 a0, .slice a1 len1 cap1] w (Ret (BoolPost [old w] true)) := by
  have hk := known_ok (sat_old w)
  have hwi := fun (l : List HP) (w : World) (h : SatL w l) => within_ok a0 12 (by omega) h
  obtain ⟨hb0, hb1⟩ := within_bd a0 12 (by omega)
  generalize withinI a0 12 = m at *
  have hnew := fun (w' : World) (h : SatL w' [old w]) => new_A (l := [old w]) (1 + m) h (by omega)
  have hlen : len1 ≤ 9223372036854775807 := by
    rcases w1 with ⟨_, h, _⟩ | ⟨x, _, h, h', _⟩
    · omega
    · unfold maxLen at h'; omega
  have t0 : True := trivial
  go_enter Try.func3, Try.ntmps3
  go_wp2_with (first
    | (go_at_call 7; (with_reducible refine hk.mono ?_); rintro e w2 ⟨v, rfl, rfl, hs2⟩)
    | (go_at_call 8; (with_reducible refine (hwi _ _ hs2).mono ?_); rintro e w3 ⟨v, rfl, rfl, hs3⟩)
    | (go_at_call 9; (with_reducible refine (hnew _ hs3).mono ?_); rintro e w4 ⟨v, rfl, pb, rfl, hs4⟩)
    | (have _t := t0; refine wpList_make_sl rfl (.const (.int .i64 512)) (.const (.int .i64 512)) rfl elem_byte 512 rfl rfl hs4 (by omega) (by omega) ?_; intro w5 hs5; clear t0))
  clear hnew hwi hk
  have hn1 : 1 ≤ 1 + m ∧ 1 + m ≤ 12 := by omega
  generalize 1 + m = n at *
  clear hb0 hb1
  have hs6 : SatL w5 (CacheA pb n [] :: Sl 5 (.slice (some ⟨w4.heap.size, 0, none⟩) 512 512) zeros :: Sl 3 (.slice none 0 0) [] :: [old w]) := (Sl_nil (T := 3) hs5).bring [2, 1, 0]
  generalize w4.heap.size = bb at *
  go_loopw [8, 9] (fun rv i wr => OldRel len1 n pb bb w rv i wr) (fun _ i _ => len1 - (intOf i).toNat)
  case atStart => exact ⟨0, [], by omega, rfl, by simp; omega, by simp, hs6⟩
  case round =>
    obtain ⟨k, ks, hk, rfl, hks, hnd, hs⟩ := hrel
    by_cases hlt : k < len1
    · by_cases h100 : k < 100
      · obtain ⟨ub, uo, rfl, hu⟩ := w1.at (by omega)
        have hbel := (SatL.pull hs 3 : SatL wr (old w :: _)).below
        have hc0 := hu k hlt
        have hc : wr.cell? ⟨ub, uo + k, none⟩ = some (.int .i64 (z1.getD k 0)) := (hbel.cell (p := ⟨ub, uo + k, none⟩) (World.block_lt_of_cell? w _ hc0)).trans hc0
        generalize z1.getD k 0 = u at *
        have hwi := fun (l : List HP) (w : World) (h : SatL w l) => within_ok u 20 (by omega) h
        obtain ⟨hq0, hq1⟩ := within_bd u 20 (by omega)
        have hget : ∀ (w' : World) (l : List HP), SatL w' (CacheA pb n (ks.map zb) :: l) → Calls Try.prog 10 #[.pointer (some ⟨pb, 0, none⟩), .int .i64 (withinI u 20)] w' (Ret fun v w'' => ∃ dv, v = .tuple #[dv, .int .i64 (bget (ks.map zb) (withinI u 20)).1] ∧ SatL w'' (CacheA pb n (bget (ks.map zb) (withinI u 20)).2 :: l)) :=
          fun w' l h => (get_A (k := withinI u 20) h (blkOk_zb ks (by omega))).mono fun e w2 ⟨v, he, dv, hv, h2⟩ => ⟨v, he, dv, hv, h2.tail⟩
        generalize withinI u 20 = q at *
        obtain ⟨E, ks1, hE, hcase⟩ : ∃ E ks1, bget (ks.map zb) q = (E, ks1.map zb) ∧ ((q ∈ ks ∧ 0 = E ∧ rest ks q ++ [q] = ks1) ∨ (¬ q ∈ ks ∧ 17 = E ∧ ks = ks1)) := by
          rw [get_zb]
          by_cases hin : q ∈ ks
          · rw [if_pos hin]; exact ⟨_, _, rfl, .inl ⟨hin, rfl, rfl⟩⟩
          · rw [if_neg hin]; exact ⟨_, _, rfl, .inr ⟨hin, rfl, rfl⟩⟩
        rw [hE] at hget
        have Hcase := hid hcase
        clear hc0 hu hE hcase
        obtain ⟨ra, rn, rc, rfl⟩ := Sl.val (hs.pull 2)
        obtain ⟨hrn, _, _⟩ := Sl.lenEq (hs.pull 2)
        rw [List.length_map] at hrn
        subst hrn
        go_wp2_with (first
          | (go_at_call 8; (with_reducible refine (hwi _ _ hs).mono ?_); rintro e w3 ⟨v, rfl, rfl, hs3⟩)
          | (go_at_call 10; (with_reducible refine (hget _ _ hs3).mono ?_); rintro e w4 ⟨v, rfl, dv, rfl, hs4⟩))
        clear hget hwi hbel hc hs hs3
        obtain ⟨wo, rfl⟩ : ∃ wo : World, wo = wr := ⟨_, rfl⟩
        go_loopw [13, 14] (fun rs i wr => ∃ j : Nat, j ≤ ks.length ∧ i = .int .i64 j ∧ SatL wr (Sl 3 rs (ivs (rest (ks.take j) q)) :: CacheA pb n (ks1.map zb) :: Sl 5 (.slice (some ⟨bb, 0, none⟩) 512 512) zeros :: Sl 3 (.slice ra ks.length rc) (ivs ks) :: [old w])) (fun _ i _ => ks.length - (intOf i).toNat)
        case atStart => exact ⟨0, by omega, rfl, Sl_nil hs4⟩
        case round =>
          obtain ⟨j, hj, rfl, hs5⟩ := hrel
          by_cases hjl : j < ks.length
          · obtain ⟨rb, ro, rfl⟩ := Sl.addr (SatL.pull hs5 3) (by omega)
            have hx : ks[j]? = some ks[j] := List.getElem?_eq_getElem hjl
            have hcj := Sl.cell (SatL.pull hs5 3) (i := j) (x := .int .i64 ks[j]) (by rw [List.getElem?_map, hx]; rfl)
            obtain ⟨y, hy⟩ : ∃ y, y = ks[j] := ⟨_, rfl⟩
            rw [← hy] at hx hcj
            have Ht := hid (show ks.take (j + 1) = ks.take j ++ [y] by rw [List.take_add_one, hx]; rfl)
            have hln : (ivs (rest (ks.take j) q)).length ≤ 100000 := by
              have h1 : (rest (ks.take j) q).length ≤ (ks.take j).length := List.length_filter_le _ _
              have h2 : (ks.take j).length ≤ ks.length := by simp; omega
              simp only [List.length_map]; omega
            have hone : ∀ v ∈ [Value.int .i64 y], v.oneCell' = true := by simp [Value.oneCell']
            have b1 : ((ivs (rest (ks.take j) q)).length + 1) * 8 ≤ 140737488355328 := by omega
            have b2 : (ivs (rest (ks.take j) q)).length + 1 ≤ maxLen := by unfold maxLen; omega
            clear hx hy
            by_cases hyq : y = q
            · have hyq' : (y != q) = false := by simp [hyq]
              have Hr := hid (show rest (ks.take (j + 1)) q = rest (ks.take j) q by rw [Ht.out]; simp [rest, hyq])
              clear hyq
              go_wp2
              go_roundw
              case rel => exact ⟨j + 1, by omega, by go_num, by rw [Hr.out]; exact hs5⟩
              case measure => simp [intOf]; omega
            · have hyq' : (y != q) = true := by simp [hyq]
              have Hr := hid (show ivs (rest (ks.take (j + 1)) q) = ivs (rest (ks.take j) q) ++ [.int .i64 y] by rw [Ht.out]; simp [rest, hyq])
              clear hyq
              go_wp2_with (at_builtin; refine wpList_append_sl rfl (.tmp 67) (.tmp 72) rfl elem_int rfl (Sl.toK (SatL.swap (SatL.alloc hs5 (.cells #[.int .i64 y] 3))) rfl) rfl (SrcOk.ofCl (n := 1) elem_int.under (SatL.alloc hs5 (.cells #[.int .i64 y] 3)) rfl 1) hone b1 b2 ?_; intro v' w2 h6 _)
              go_roundw
              case rel => exact ⟨j + 1, by omega, by go_num, by rw [Hr.out]; exact SatL.tail (SatL.swap (Sl.ofK h6))⟩
              case measure => simp [intOf]; omega
          · obtain rfl : j = ks.length := by omega
            rw [List.take_length] at hs5
            obtain ⟨sa, sn, sc, rfl⟩ := Sl.val hs5
            obtain ⟨hsn, hsc, hsc2⟩ := Sl.lenEq hs5
            rw [List.length_map] at hsn
            unfold maxLen at hsc2
            have hone : ∀ v ∈ [Value.int .i64 q], v.oneCell' = true := by simp [Value.oneCell']
            have hheld := fun (w' : World) (l : List HP) (F : List Int) (hF : F.length ≤ 100000) (h : SatL w' (CacheA pb n (F.map zb) :: l)) => held_A h (by rw [List.length_map]; exact hF)
            have happ : ∀ (R : List Int), R.length ≤ 1000 → ((ivs R).length + 1) * 8 ≤ 140737488355328 ∧ (ivs R).length + 1 ≤ maxLen := fun R hR => by simp only [List.length_map]; unfold maxLen; omega
            have hsl0 : sn ≤ ks.length := by rw [hsn]; exact List.length_filter_le _ _
            have hfin : ∃ (F : List Int), (F.length : Int) ≤ n ∧ F.Nodup ∧ True := ⟨ks, hks, hnd, trivial⟩
            clear hfin
            rcases Hcase.out with ⟨hin, rfl, rfl⟩ | ⟨hin, rfl, rfl⟩
            · have hrl := rest_lt ks q hnd hin
              rw [← hsn] at hrl
              have hlt2 : (sn : Int) < (ks.length : Int) := by omega
              have hF1 : ((rest ks q ++ [q]).length : Int) ≤ n := by rw [List.length_append, ← hsn]; simp; omega
              have hF2 : (rest ks q ++ [q]).Nodup := by
                rw [List.nodup_append]
                exact ⟨hnd.filter _, by simp, fun a ha b hb => by simp at hb; subst hb; rintro rfl; simp [rest] at ha⟩
              obtain ⟨b1, b2⟩ := happ (rest ks q) (by omega)
              have hFl : (ivs (rest ks q) ++ [Value.int .i64 q]).length = sn + 1 := by rw [List.length_append, List.length_map, ← hsn]; rfl
              have hFl2 : (((rest ks q ++ [q]).map zb).map fun x => Value.int .i64 x.b).length = sn + 1 := by rw [List.length_map, List.length_map, List.length_append, ← hsn]; rfl
              clear Hcase hrl happ; have Hsn := hid hsn; clear hsn
              go_wp2_with (first
                | (at_builtin; refine wpList_append_sl rfl (.tmp 95) (.tmp 97) rfl elem_int rfl (Sl.toK (SatL.swap (SatL.alloc hs5 (.cells #[.int .i64 q] 3))) rfl) rfl (SrcOk.ofCl (n := 1) elem_int.under (SatL.alloc hs5 (.cells #[.int .i64 q] 3)) rfl 1) hone b1 b2 ?_; intro v' w2 h6 _; obtain ⟨va, vc, rfl, hv1, hv2⟩ := Sl.valn (Sl.ofK h6) hFl)
                | (go_at_call 12; refine (hheld _ _ (rest ks q ++ [q]) (by omega) (SatL.bring (Sl.ofK h6) [2])).mono ?_; rintro e w4 ⟨v, rfl, hs9⟩; obtain ⟨ha, hc, rfl, hh1, hh2⟩ := Sl.valn hs9 hFl2))
              have hs10 : SatL w4 (Sl 3 (.slice ha (sn + 1) hc) (ivs (rest ks q ++ [q])) :: Sl 3 (.slice va (sn + 1) vc) (ivs (rest ks q ++ [q])) :: CacheA pb n ((rest ks q ++ [q]).map zb) :: Sl 5 (.slice (some ⟨bb, 0, none⟩) 512 512) zeros :: [old w]) := by
                have e : (((rest ks q ++ [q]).map zb).map fun x => Value.int .i64 x.b) = ivs (rest ks q ++ [q]) := by rw [List.map_map]; rfl
                have e2 : ivs (rest ks q) ++ #[Value.int .i64 q].toList = ivs (rest ks q ++ [q]) := by simp
                rw [e, e2] at hs9
                exact SatL.tail (SatL.tail (SatL.bring hs9 [3, 5, 0, 2, 1, 4]))
              have hFn : (rest ks q ++ [q]).length = sn + 1 := by rw [List.length_append, ← Hsn.out]; rfl
              generalize sn + 1 = N at *
              have HFn := hid hFn
              clear hs9 h6 hFl hFl2 hheld hs5 b1 b2 hone hFn
              generalize rest ks q ++ [q] = F at *
              have HF1 := hid hF1; have HF2 := hid hF2
              clear hF1 hF2
              obtain ⟨wo2, rfl⟩ : ∃ wo : World, wo = w4 := ⟨_, rfl⟩
              go_loopw [16] (fun i wr => ∃ j : Nat, j ≤ N ∧ i = .int .i64 j ∧ SatL wr (Sl 3 (.slice ha (N) hc) (ivs F) :: Sl 3 (.slice va (N) vc) (ivs F) :: CacheA pb n (F.map zb) :: Sl 5 (.slice (some ⟨bb, 0, none⟩) 512 512) zeros :: [old w])) (fun i _ => N - (intOf i).toNat)
              case atStart => exact ⟨0, by omega, rfl, hs10⟩
              case round =>
                obtain ⟨j, hj, rfl, hs11⟩ := hrel
                by_cases hjl : j < N
                · obtain ⟨hb1, ho1, rfl⟩ := Sl.addr hs11 (by omega)
                  obtain ⟨hb2, ho2, rfl⟩ := Sl.addr (SatL.pull hs11 1) (by omega)
                  obtain ⟨y, hx⟩ : ∃ y, F[j]? = some y := ⟨F[j]'(by have := HFn.out; omega), List.getElem?_eq_getElem _⟩
                  have q1 := Sl.cell hs11 (i := j) (x := .int .i64 y) (by rw [List.getElem?_map, hx]; rfl)
                  have q2 := Sl.cell (SatL.pull hs11 1) (i := j) (x := .int .i64 y) (by rw [List.getElem?_map, hx]; rfl)
                  clear hx
                  go_wp2
                  go_quiet (fail)
                  go_wp2
                  go_roundw
                  case rel => exact ⟨j + 1, by omega, by go_num, hs11⟩
                  case measure => simp [intOf]; omega
                · go_wp2
                  go_roundw
                  case rel => exact ⟨k + 1, F, by omega, by go_num, HF1.out, HF2.out, SatL.bring (SatL.tail hs11) [1, 2, 0]⟩
                  case measure => simp [intOf]; omega
            · have hrest := rest_not ks q hin
              rw [hrest] at hs5 hsn
              subst hsn
              by_cases hfull : (ks.length : Int) = n
              · have hd : drop1 n ks = ks.tail := by unfold drop1; rw [if_neg (by omega)]
                obtain ⟨rb, ro, rfl⟩ := Sl.addr hs5 (by omega)
                have hF1 : ((ks.tail ++ [q]).length : Int) ≤ n := by rw [List.length_append, List.length_tail]; simp; omega
                have hF2 : (ks.tail ++ [q]).Nodup := by
                  rw [List.nodup_append]
                  exact ⟨hnd.sublist (List.tail_sublist ks), by simp, fun a ha b hb => by simp at hb; subst hb; rintro rfl; exact hin (List.mem_of_mem_tail ha)⟩
                have e5 : ((ivs ks).take ks.length).drop 1 = ivs ks.tail := by
                  rw [List.take_of_length_le (by simp), ← List.map_drop, List.drop_one]
                have hpos : 0 < ks.length := by omega
                by_cases hsc1 : sc = 1
                · subst hsc1
                  have hk1 : ks.length = 1 := by omega
                  have hs5c : SatL wr (Sl 3 (.slice (some ⟨rb, ro, none⟩) 0 0) (ivs ks.tail) :: CacheA pb n (ks.map zb) :: Sl 5 (.slice (some ⟨bb, 0, none⟩) 512 512) zeros :: Sl 3 (.slice ra ks.length rc) (ivs ks) :: [old w]) := by
                    have := Sl.ofK (SlK.empty (o := ro) (Sl.toK hs5 (by simp)) (by omega))
                    have e6 : ks.tail = [] := List.eq_nil_of_length_eq_zero (by rw [List.length_tail]; omega)
                    rw [e6]; exact this
                  clear hk1
                  have hfi := fun (w' : World) (l : List HP) (h : SatL w' (CacheA pb n (ks.map zb) :: Sl 5 (.slice (some ⟨bb, 0, none⟩) 512 512) zeros :: l)) => fill_A (k := q) h (blkOk_zb ks (by omega)) (by omega) zeros_one (by rw [zeros_len]; omega)
                  simp only [fill_zb n ks q hq0 hin hnd hn1.1, hd] at hfi
                  obtain ⟨b1, b2⟩ := happ ks.tail (by rw [List.length_tail]; omega)
                  have hFl : (ivs ks.tail ++ [Value.int .i64 q]).length = ks.length := by rw [List.length_append, List.length_map, List.length_tail]; simp; omega
                  have hFl2 : (((ks.tail ++ [q]).map zb).map fun x => Value.int .i64 x.b).length = ks.length := by rw [List.length_map, List.length_map, List.length_append, List.length_tail]; simp; omega
                  clear Hcase happ hd hrest
                  go_wp2_with (first
                    | (go_at_call 11; refine (hfi _ _ (SatL.bring hs5c [1, 2])).mono ?_; rintro e w4 ⟨v, rfl, rfl, hs8⟩)
                    | (at_builtin; refine wpList_append_sl rfl (.tmp 95) (.tmp 97) rfl elem_int rfl (Sl.toK (SatL.bring (SatL.alloc hs8 (.cells #[.int .i64 q] 3)) [3]) rfl) rfl (SrcOk.ofCl (n := 1) elem_int.under (SatL.alloc hs8 (.cells #[.int .i64 q] 3)) rfl 1) hone b1 b2 ?_; intro v' w5 h6 _; obtain ⟨va, vc, rfl, hv1, hv2⟩ := Sl.valn (Sl.ofK h6) hFl)
                    | (go_at_call 12; refine (hheld _ _ (ks.tail ++ [q]) (by rw [List.length_append, List.length_tail]; simp; omega) (SatL.bring (Sl.ofK h6) [2])).mono ?_; rintro e w4 ⟨v, rfl, hs9⟩; obtain ⟨ha, hc, rfl, hh1, hh2⟩ := Sl.valn hs9 hFl2))
                  have hs10 : SatL w4 (Sl 3 (.slice ha ks.length hc) (ivs (ks.tail ++ [q])) :: Sl 3 (.slice va ks.length vc) (ivs (ks.tail ++ [q])) :: CacheA pb n ((ks.tail ++ [q]).map zb) :: Sl 5 (.slice (some ⟨bb, 0, none⟩) 512 512) zeros :: [old w]) := by
                    have e : (((ks.tail ++ [q]).map zb).map fun x => Value.int .i64 x.b) = ivs (ks.tail ++ [q]) := by rw [List.map_map]; rfl
                    have e2 : ivs ks.tail ++ #[Value.int .i64 q].toList = ivs (ks.tail ++ [q]) := by simp
                    rw [e, e2] at hs9
                    exact SatL.tail (SatL.tail (SatL.bring hs9 [3, 5, 0, 2, 1, 4]))
                  have hFn : (ks.tail ++ [q]).length = ks.length := by rw [List.length_append, List.length_tail]; simp; omega
                  have HFn := hid hFn
                  clear hs9 h6 hFl hFl2 hheld hs5 hs5c b1 b2 hone hFn
                  generalize ks.tail ++ [q] = F at *
                  have HF1 := hid hF1; have HF2 := hid hF2
                  clear hF1 hF2
                  obtain ⟨wo2, rfl⟩ : ∃ wo : World, wo = w4 := ⟨_, rfl⟩
                  go_loopw [16] (fun i wr => ∃ j : Nat, j ≤ ks.length ∧ i = .int .i64 j ∧ SatL wr (Sl 3 (.slice ha (ks.length) hc) (ivs F) :: Sl 3 (.slice va (ks.length) vc) (ivs F) :: CacheA pb n (F.map zb) :: Sl 5 (.slice (some ⟨bb, 0, none⟩) 512 512) zeros :: [old w])) (fun i _ => ks.length - (intOf i).toNat)
                  case atStart => exact ⟨0, by omega, rfl, hs10⟩
                  case round =>
                    obtain ⟨j, hj, rfl, hs11⟩ := hrel
                    by_cases hjl : j < ks.length
                    · obtain ⟨hb1, ho1, rfl⟩ := Sl.addr hs11 (by omega)
                      obtain ⟨hb2, ho2, rfl⟩ := Sl.addr (SatL.pull hs11 1) (by omega)
                      obtain ⟨y, hx⟩ : ∃ y, F[j]? = some y := ⟨F[j]'(by have := HFn.out; omega), List.getElem?_eq_getElem _⟩
                      have q1 := Sl.cell hs11 (i := j) (x := .int .i64 y) (by rw [List.getElem?_map, hx]; rfl)
                      have q2 := Sl.cell (SatL.pull hs11 1) (i := j) (x := .int .i64 y) (by rw [List.getElem?_map, hx]; rfl)
                      clear hx
                      go_wp2
                      go_quiet (fail)
                      go_wp2
                      go_roundw
                      case rel => exact ⟨j + 1, by omega, by go_num, hs11⟩
                      case measure => simp [intOf]; omega
                    · go_wp2
                      go_roundw
                      case rel => exact ⟨k + 1, F, by omega, by go_num, HF1.out, HF2.out, SatL.bring (SatL.tail hs11) [1, 2, 0]⟩
                      case measure => simp [intOf]; omega
                · have hs5c : SatL wr (Sl 3 (.slice (some ⟨rb, ro + 1, none⟩) (ks.length - 1) (sc - 1)) (ivs ks.tail) :: CacheA pb n (ks.map zb) :: Sl 5 (.slice (some ⟨bb, 0, none⟩) 512 512) zeros :: Sl 3 (.slice ra ks.length rc) (ivs ks) :: [old w]) := by
                    have := Sl.slice hs5 (i := 1) (j := ks.length) (by omega) (by omega)
                    rw [e5] at this; exact this
                  have hfi := fun (w' : World) (l : List HP) (h : SatL w' (CacheA pb n (ks.map zb) :: Sl 5 (.slice (some ⟨bb, 0, none⟩) 512 512) zeros :: l)) => fill_A (k := q) h (blkOk_zb ks (by omega)) (by omega) zeros_one (by rw [zeros_len]; omega)
                  simp only [fill_zb n ks q hq0 hin hnd hn1.1, hd] at hfi
                  obtain ⟨b1, b2⟩ := happ ks.tail (by rw [List.length_tail]; omega)
                  have hFl : (ivs ks.tail ++ [Value.int .i64 q]).length = ks.length := by rw [List.length_append, List.length_map, List.length_tail]; simp; omega
                  have hFl2 : (((ks.tail ++ [q]).map zb).map fun x => Value.int .i64 x.b).length = ks.length := by rw [List.length_map, List.length_map, List.length_append, List.length_tail]; simp; omega
                  clear Hcase happ hd hrest
                  go_wp2_with (first
                    | (go_at_call 11; refine (hfi _ _ (SatL.bring hs5c [1, 2])).mono ?_; rintro e w4 ⟨v, rfl, rfl, hs8⟩)
                    | (at_builtin; refine wpList_append_sl rfl (.tmp 95) (.tmp 97) rfl elem_int rfl (Sl.toK (SatL.bring (SatL.alloc hs8 (.cells #[.int .i64 q] 3)) [3]) rfl) rfl (SrcOk.ofCl (n := 1) elem_int.under (SatL.alloc hs8 (.cells #[.int .i64 q] 3)) rfl 1) hone b1 b2 ?_; intro v' w5 h6 _; obtain ⟨va, vc, rfl, hv1, hv2⟩ := Sl.valn (Sl.ofK h6) hFl)
                    | (go_at_call 12; refine (hheld _ _ (ks.tail ++ [q]) (by rw [List.length_append, List.length_tail]; simp; omega) (SatL.bring (Sl.ofK h6) [2])).mono ?_; rintro e w4 ⟨v, rfl, hs9⟩; obtain ⟨ha, hc, rfl, hh1, hh2⟩ := Sl.valn hs9 hFl2))
                  have hs10 : SatL w4 (Sl 3 (.slice ha ks.length hc) (ivs (ks.tail ++ [q])) :: Sl 3 (.slice va ks.length vc) (ivs (ks.tail ++ [q])) :: CacheA pb n ((ks.tail ++ [q]).map zb) :: Sl 5 (.slice (some ⟨bb, 0, none⟩) 512 512) zeros :: [old w]) := by
                    have e : (((ks.tail ++ [q]).map zb).map fun x => Value.int .i64 x.b) = ivs (ks.tail ++ [q]) := by rw [List.map_map]; rfl
                    have e2 : ivs ks.tail ++ #[Value.int .i64 q].toList = ivs (ks.tail ++ [q]) := by simp
                    rw [e, e2] at hs9
                    exact SatL.tail (SatL.tail (SatL.bring hs9 [3, 5, 0, 2, 1, 4]))
                  have hFn : (ks.tail ++ [q]).length = ks.length := by rw [List.length_append, List.length_tail]; simp; omega
                  have HFn := hid hFn
                  clear hs9 h6 hFl hFl2 hheld hs5 hs5c b1 b2 hone hFn
                  generalize ks.tail ++ [q] = F at *
                  have HF1 := hid hF1; have HF2 := hid hF2
                  clear hF1 hF2
                  obtain ⟨wo2, rfl⟩ : ∃ wo : World, wo = w4 := ⟨_, rfl⟩
                  go_loopw [16] (fun i wr => ∃ j : Nat, j ≤ ks.length ∧ i = .int .i64 j ∧ SatL wr (Sl 3 (.slice ha (ks.length) hc) (ivs F) :: Sl 3 (.slice va (ks.length) vc) (ivs F) :: CacheA pb n (F.map zb) :: Sl 5 (.slice (some ⟨bb, 0, none⟩) 512 512) zeros :: [old w])) (fun i _ => ks.length - (intOf i).toNat)
                  case atStart => exact ⟨0, by omega, rfl, hs10⟩
                  case round =>
                    obtain ⟨j, hj, rfl, hs11⟩ := hrel
                    by_cases hjl : j < ks.length
                    · obtain ⟨hb1, ho1, rfl⟩ := Sl.addr hs11 (by omega)
                      obtain ⟨hb2, ho2, rfl⟩ := Sl.addr (SatL.pull hs11 1) (by omega)
                      obtain ⟨y, hx⟩ : ∃ y, F[j]? = some y := ⟨F[j]'(by have := HFn.out; omega), List.getElem?_eq_getElem _⟩
                      have q1 := Sl.cell hs11 (i := j) (x := .int .i64 y) (by rw [List.getElem?_map, hx]; rfl)
                      have q2 := Sl.cell (SatL.pull hs11 1) (i := j) (x := .int .i64 y) (by rw [List.getElem?_map, hx]; rfl)
                      clear hx
                      go_wp2
                      go_quiet (fail)
                      go_wp2
                      go_roundw
                      case rel => exact ⟨j + 1, by omega, by go_num, hs11⟩
                      case measure => simp [intOf]; omega
                    · go_wp2
                      go_roundw
                      case rel => exact ⟨k + 1, F, by omega, by go_num, HF1.out, HF2.out, SatL.bring (SatL.tail hs11) [1, 2, 0]⟩
                      case measure => simp [intOf]; omega
              · have hd : drop1 n ks = ks := by unfold drop1; rw [if_pos (by omega)]
                have hlt3 : ¬ ((ks.length : Int) = n) := hfull
                have hF1 : ((ks ++ [q]).length : Int) ≤ n := by rw [List.length_append]; simp; omega
                have hF2 : (ks ++ [q]).Nodup := by
                  rw [List.nodup_append]
                  exact ⟨hnd, by simp, fun a ha b hb => by simp at hb; subst hb; rintro rfl; exact hin ha⟩
                have hfi := fun (w' : World) (l : List HP) (h : SatL w' (CacheA pb n (ks.map zb) :: Sl 5 (.slice (some ⟨bb, 0, none⟩) 512 512) zeros :: l)) => fill_A (k := q) h (blkOk_zb ks (by omega)) (by omega) zeros_one (by rw [zeros_len]; omega)
                simp only [fill_zb n ks q hq0 hin hnd hn1.1, hd] at hfi
                obtain ⟨b1, b2⟩ := happ ks (by omega)
                have hFl : (ivs ks ++ [Value.int .i64 q]).length = ks.length + 1 := by rw [List.length_append, List.length_map]; rfl
                have hFl2 : (((ks ++ [q]).map zb).map fun x => Value.int .i64 x.b).length = ks.length + 1 := by rw [List.length_map, List.length_map, List.length_append]; rfl
                clear Hcase happ hd hrest
                go_wp2_with (first
                  | (go_at_call 11; refine (hfi _ _ (SatL.bring hs5 [1, 2])).mono ?_; rintro e w4 ⟨v, rfl, rfl, hs8⟩)
                  | (at_builtin; refine wpList_append_sl rfl (.tmp 95) (.tmp 97) rfl elem_int rfl (Sl.toK (SatL.bring (SatL.alloc hs8 (.cells #[.int .i64 q] 3)) [3]) rfl) rfl (SrcOk.ofCl (n := 1) elem_int.under (SatL.alloc hs8 (.cells #[.int .i64 q] 3)) rfl 1) hone b1 b2 ?_; intro v' w5 h6 _; obtain ⟨va, vc, rfl, hv1, hv2⟩ := Sl.valn (Sl.ofK h6) hFl)
                  | (go_at_call 12; refine (hheld _ _ (ks ++ [q]) (by omega) (SatL.bring (Sl.ofK h6) [2])).mono ?_; rintro e w4 ⟨v, rfl, hs9⟩; obtain ⟨ha, hc, rfl, hh1, hh2⟩ := Sl.valn hs9 hFl2))
                have hs10 : SatL w4 (Sl 3 (.slice ha (ks.length + 1) hc) (ivs (ks ++ [q])) :: Sl 3 (.slice va (ks.length + 1) vc) (ivs (ks ++ [q])) :: CacheA pb n ((ks ++ [q]).map zb) :: Sl 5 (.slice (some ⟨bb, 0, none⟩) 512 512) zeros :: [old w]) := by
                  have e : (((ks ++ [q]).map zb).map fun x => Value.int .i64 x.b) = ivs (ks ++ [q]) := by rw [List.map_map]; rfl
                  have e2 : ivs ks ++ #[Value.int .i64 q].toList = ivs (ks ++ [q]) := by simp
                  rw [e, e2] at hs9
                  exact SatL.tail (SatL.tail (SatL.bring hs9 [3, 5, 0, 2, 1, 4]))
                have hFn : (ks ++ [q]).length = ks.length + 1 := by rw [List.length_append]; rfl
                generalize ks.length + 1 = N at *
                have HFn := hid hFn
                clear hs9 h6 hFl hFl2 hheld hs5 b1 b2 hone hFn
                generalize ks ++ [q] = F at *
                have HF1 := hid hF1; have HF2 := hid hF2
                clear hF1 hF2
                obtain ⟨wo2, rfl⟩ : ∃ wo : World, wo = w4 := ⟨_, rfl⟩
                go_loopw [16] (fun i wr => ∃ j : Nat, j ≤ N ∧ i = .int .i64 j ∧ SatL wr (Sl 3 (.slice ha (N) hc) (ivs F) :: Sl 3 (.slice va (N) vc) (ivs F) :: CacheA pb n (F.map zb) :: Sl 5 (.slice (some ⟨bb, 0, none⟩) 512 512) zeros :: [old w])) (fun i _ => N - (intOf i).toNat)
                case atStart => exact ⟨0, by omega, rfl, hs10⟩
                case round =>
                  obtain ⟨j, hj, rfl, hs11⟩ := hrel
                  by_cases hjl : j < N
                  · obtain ⟨hb1, ho1, rfl⟩ := Sl.addr hs11 (by omega)
                    obtain ⟨hb2, ho2, rfl⟩ := Sl.addr (SatL.pull hs11 1) (by omega)
                    obtain ⟨y, hx⟩ : ∃ y, F[j]? = some y := ⟨F[j]'(by have := HFn.out; omega), List.getElem?_eq_getElem _⟩
                    have q1 := Sl.cell hs11 (i := j) (x := .int .i64 y) (by rw [List.getElem?_map, hx]; rfl)
                    have q2 := Sl.cell (SatL.pull hs11 1) (i := j) (x := .int .i64 y) (by rw [List.getElem?_map, hx]; rfl)
                    clear hx
                    go_wp2
                    go_quiet (fail)
                    go_wp2
                    go_roundw
                    case rel => exact ⟨j + 1, by omega, by go_num, hs11⟩
                    case measure => simp [intOf]; omega
                  · go_wp2
                    go_roundw
                    case rel => exact ⟨k + 1, F, by omega, by go_num, HF1.out, HF2.out, SatL.bring (SatL.tail hs11) [1, 2, 0]⟩
                    case measure => simp [intOf]; omega
      · go_wp2
        go_ret
        exact Ret.mk ⟨rfl, SatL.tail (SatL.tail (SatL.tail hs))⟩
    · go_wp2
      go_ret
      exact Ret.mk ⟨rfl, SatL.tail (SatL.tail (SatL.tail hs))⟩
end
end Go.Proofs.Ytlmjjfgnpcghgaa
