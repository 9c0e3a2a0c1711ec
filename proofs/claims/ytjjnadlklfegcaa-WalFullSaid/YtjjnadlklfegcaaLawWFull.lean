/- WalFull: for every input it returns true and writes nothing that was there. No condition. -/
import Derived.Test.YtjjnadlklfegcaaWalJoin
import Derived.Test.YtjjnadlklfegcaaLaw8K
import Derived.Test.YtjjnadlklfegcaaGroups
namespace Go.Proofs.Ytjjnadlklfegcaa
set_option linter.unusedVariables false
set_option linter.unusedSimpArgs false
open Go.RowKit

def gk (k : Nat) : List PD := (List.range k).map fun j => (((100 + j : Nat) : Int), putB 512 j)
theorem gk_len (k : Nat) : (gk k).length = k := by simp [gk]
theorem gk_succ (k : Nat) : gk (k + 1) = gk k ++ [(((100 + k : Nat) : Int), putB 512 k)] := by simp [gk, List.range_succ]
theorem gk_plc (k j : Nat) : plc ((gk k).map (·.1)) ((100 + j : Nat) : Int) = if j < k then some j else none := by
  induction k with
  | zero => simp [gk, plc]
  | succ k ih =>
    rw [gk_succ, List.map_append, List.map_cons, List.map_nil, plc_snoc, ih]
    rw [List.length_map, gk_len]
    by_cases h1 : j < k
    · rw [if_pos h1, if_pos (show j < k + 1 by omega)]; rfl
    · rw [if_neg h1]
      by_cases h2 : j = k
      · subst h2; rw [if_pos rfl, if_pos (show j < j + 1 by omega)]; rfl
      · rw [if_neg (show ¬ (((100 + k : Nat) : Int) = ((100 + j : Nat) : Int)) by omega), if_neg (show ¬ j < k + 1 by omega)]; rfl
theorem sound_put (at_ : Nat) (b : Nat) (h : at_ ≤ 4294967295) : soundE ((at_ : Int), putB 512 b) = 0 := by
  unfold soundE
  rw [if_neg (by simp only; omega), if_neg (by simp only [putB_len]; omega)]
def logF (l : List PD) : LogS := { logNew 2 7 with L := l }
theorem logF_find (l : List PD) (b : Int) : (logF l).find b = (gfind l b).or none := rfl
theorem full_in {k : Nat} (h : k < 64) : (logF (gk k)).join [(((100 + k : Nat) : Int), putB 512 k)] = (1, 0, logF (gk (k + 1))) := by
  have e : gputs (gk k) [(((100 + k : Nat) : Int), putB 512 k)] = gk (k + 1) := by
    show gput (gk k) _ = _
    unfold gput
    simp only
    rw [gk_plc, if_neg (by omega), gk_succ]
  unfold LogS.join
  rw [if_neg (by simp only [joinE]; rw [sound_put _ _ (by omega)]; simp)]
  show (if 64 < (gputs (gk k) _).length then _ else ((1 : Int), (0 : Int), logF (gputs (gk k) [(((100 + k : Nat) : Int), putB 512 k)]))) = _
  rw [e, if_neg (by rw [gk_len]; omega)]
theorem full_no {k b : Nat} (h : 64 ≤ k) (h2 : k ≤ 1000) : (logF (gk 64)).join [(((100 + k : Nat) : Int), putB 512 b)] = (0, 7, logF (gk 64)) := by
  unfold LogS.join
  rw [if_neg (by simp only [joinE]; rw [sound_put _ _ (by omega)]; simp)]
  rw [if_pos]
  show 64 < (gput (gk 64) _).length
  unfold gput
  simp only
  rw [gk_plc, if_neg (by omega)]
  rw [List.length_append, gk_len]; simp
def gkx (c j : Nat) : List PD := (gk c).set j (((100 + j : Nat) : Int), putB 512 200)
theorem full_again {c j : Nat} (hc : c ≤ 64) (hj : j < c) : (logF (gk c)).join [(((100 + j : Nat) : Int), putB 512 200)] = (1, 0, logF (gkx c j)) := by
  have e : gputs (gk c) [(((100 + j : Nat) : Int), putB 512 200)] = gkx c j := by
    show gput (gk c) _ = _
    unfold gput
    simp only
    rw [gk_plc, if_pos hj]; rfl
  unfold LogS.join
  rw [if_neg (by simp only [joinE]; rw [sound_put _ _ (by omega)]; simp)]
  show (if 64 < (gputs (gk c) _).length then _ else ((1 : Int), (0 : Int), logF (gputs (gk c) [(((100 + j : Nat) : Int), putB 512 200)]))) = _
  rw [e, if_neg (by unfold gkx; rw [List.length_set, gk_len]; omega)]
theorem full_find {c j : Nat} (hj : j < c) : (logF (gkx c j)).find ((100 + j : Nat) : Int) = some (putB 512 200) := by
  have e : (gkx c j).map (·.1) = (gk c).map (·.1) := by
    unfold gkx
    rw [List.map_set]
    apply List.ext_getElem?
    intro i
    rw [List.getElem?_set]
    split
    · rename_i e; subst e
      rw [if_pos (by rw [List.length_map, gk_len]; exact hj)]
      have := gk_plc c j
      rw [if_pos hj] at this
      rw [plc_get this]
    · rfl
  have : gfind (gkx c j) ((100 + j : Nat) : Int) = some (putB 512 200) := by
    unfold gfind
    rw [e, gk_plc, if_pos hj]
    simp only
    unfold gkx
    rw [List.getElem?_set, if_pos rfl, if_pos (by rw [gk_len]; exact hj), Option.map_some]
  rw [logF_find, this, Option.some_or]

section
variable {w : World} {l : List HP} {pb : Nat} {s : LogS}
theorem field_put (x y : Value) (w : World) : (Instr.field 29 (.agg #[x, y]) 1).run Try.prog w = .ok y w := by kernel_rfl
theorem start_none (h : SatL w (LogR pb s :: l)) (h0 : s.phase = 0) (hL : s.L = []) : Calls Try.prog 26 #[.pointer (some ⟨pb, 0, none⟩)] w (Ret fun r w' => r = .int .i64 2 ∧ SatL w' (LogR pb s :: l)) := by
  obtain ⟨lv, m, nv, mv, rv, hf, h1⟩ := sat_LogR.1 h
  have hv := PutsL.valn (SatL.pull h1 1 : SatL w (PutsL _ _ :: _))
  rw [hL] at hv
  obtain ⟨a, c, rfl, q1, q2⟩ := hv
  have c0 : w.cell? ⟨pb, 0, none⟩ = some (.slice a 0 c) := h1.cell (i := 0) rfl
  have c4 : w.cell? ⟨pb, 4, none⟩ = some (.int .i64 s.phase) := h1.cell (i := 4) rfl
  rw [h0] at c4
  clear h1 hL h0 hf
  go_enter Try.func26, Try.ntmps26
  go_wp2
  go_ret
  exact Ret.mk ⟨rfl, h⟩
/-- one block that is passed on -/
theorem join_one {b nb : Nat} {at_ : Int} {a : Option Addr} {c : Nat} {d : List UInt8} (hd : d.length = 512) (h : SatL w (cl nb 29 #[.int .i64 at_, .slice a 512 c] :: SlB 5 (.slice a 512 c) d :: LogR pb s :: l)) :
    Calls Try.prog 23 #[.pointer (some ⟨pb, 0, none⟩), .slice (some ⟨nb, 0, none⟩) 1 1] w (Ret fun r w' => r = .tuple #[.int .i64 (s.join [(at_, d)]).1, .int .i64 (s.join [(at_, d)]).2.1] ∧ SatL w' (LogR pb (s.join [(at_, d)]).2.2 :: l)) := by
  have h1 : SatL w (LogR pb s :: PutsR (.slice (some ⟨nb, 0, none⟩) 1 1) [⟨at_, .slice a 512 c, d⟩] :: l) := SatL.swap (PutsR.one h)
  refine (join_ok h1 (ls := [⟨at_, .slice a 512 c, d⟩]) (fun w' h' => PutsR.rdpd h') (by simp) (by intro p hp; rw [List.mem_singleton.1 hp]; simp only; omega)).mono ?_
  rintro e w' ⟨r, rfl, hr, h2⟩
  exact Ret.mk ⟨hr, SatL.tail (SatL.swap h2)⟩
end

set_option maxRecDepth 100000 in
set_option maxHeartbeats 8000000 in
theorem wfull_walk (a0 a1 : Int) (w : World) :
    Calls Try.prog 6 #[.int .i64 a0, .int .i64 a1] w (Ret fun v w' => v = .bool true ∧ SatL w' [old w]) := by
  have hk := known_ok (sat_old w)
  have hwi := fun (w : World) => within_ok a0 70 (by omega) w
  have hb0 := within_bd a0 70 (by omega)
  obtain ⟨n, hn⟩ : ∃ n : Nat, (n : Int) = withinI a0 70 := ⟨(withinI a0 70).toNat, by omega⟩
  rw [← hn] at hwi hb0
  have hn70 : n < 70 := by omega
  have hnew := fun (w' : World) (h : SatL w' [old w]) => new_ok (start := 2) (seq := 7) (by omega) h
  rw [show ((7 : Nat) : Int) = 7 from rfl] at hnew
  clear hn hb0
  go_enter Try.func6, Try.ntmps6
  go_upto_region 8 with (first
    | (go_at_call 11; (with_reducible refine hk.mono ?_); rintro e w1 ⟨v, rfl, rfl, h1⟩)
    | (go_at_call 21; (with_reducible refine (hwi _).mono ?_); rintro e w2 ⟨rfl, rfl⟩)
    | (go_at_call 22; (with_reducible refine (hnew _ h1).mono ?_); rintro e w3 ⟨r, rfl, pb, rfl, h2⟩))
  have h3 : SatL w3 (LogR pb (logF (gk (min 0 64))) :: [old w]) := h2
  clear h1 h2 hk hwi hnew
  go_loopw [7] (fun i wr => ∃ k : Nat, k ≤ n ∧ i = .int .i64 k ∧ SatL wr (LogR pb (logF (gk (min k 64))) :: [old w])) (fun i _ => n - (intOf i).toNat)
  case atStart => exact ⟨0, by omega, rfl, h3⟩
  case round =>
    clear h3
    obtain ⟨k, hkn, rfl, hs⟩ := hrel
    by_cases hlt : k < n
    · have hp := put_ok (at_ := ((100 + k : Nat) : Int)) (sz := 0) (b := k) (by omega) hs
      rw [show putN 0 = 512 from rfl] at hp
      rw [show ((100 + k : Nat) : Int) = 100 + (k : Int) by omega] at hp
      have hkz : (k : Int) < n := by omega
      by_cases h64 : k < 64
      · have e1 : min k 64 = k := by omega
        have e2 : min (k + 1) 64 = k + 1 := by omega
        rw [e1] at hp hs
        have hjn := fun (w' : World) (nb : Nat) (a : Option Addr) (c : Nat) (h : SatL w' (cl nb 29 #[.int .i64 (100 + (k : Int)), .slice a 512 c] :: SlB 5 (.slice a 512 c) (putB 512 k) :: LogR pb (logF (gk k)) :: [old w])) => join_one (b := k) (putB_len 512 k) h
        rw [show (100 + (k : Int)) = ((100 + k : Nat) : Int) by omega] at hjn
        simp only [full_in h64] at hjn
        rw [show ((100 + k : Nat) : Int) = 100 + (k : Int) by omega] at hjn
        have hop := fun (w' : World) (h : SatL w' (LogR pb (logF (gk (k + 1))) :: [old w])) => open_ok h
        rw [show (logF (gk (k + 1))).L.length = k + 1 from gk_len (k + 1)] at hop
        have hk64 : (k : Int) < 64 := by omega
        have E2 := hid e2
        clear e1 e2
        go_wp2_with (first
          | (go_at_call 24; (with_reducible refine hp.mono ?_); rintro e w4 ⟨r, rfl, pa, pc, rfl, i1, i2, h4⟩; have h5 := hjn _ _ _ _ (h4.alloc (.cells #[.int .i64 (100 + (k : Int)), .slice pa 512 pc] 29)))
          | (go_at_call 23; (with_reducible refine h5.mono ?_); rintro e w5 ⟨r, rfl, rfl, h6⟩)
          | (go_at_call 25; (with_reducible refine (hop _ h6).mono ?_); rintro e w6 ⟨r, rfl, rfl, h7⟩))
        go_roundw
        case rel => exact ⟨k + 1, by omega, by go_num, by rw [E2.out]; exact h7⟩
        case measure => simp [intOf]; omega
      · have e1 : min k 64 = 64 := by omega
        have e2 : min (k + 1) 64 = 64 := by omega
        rw [e1] at hp hs
        have hjn := fun (w' : World) (nb : Nat) (a : Option Addr) (c : Nat) (h : SatL w' (cl nb 29 #[.int .i64 (100 + (k : Int)), .slice a 512 c] :: SlB 5 (.slice a 512 c) (putB 512 k) :: LogR pb (logF (gk 64)) :: [old w])) => join_one (b := k) (putB_len 512 k) h
        rw [show (100 + (k : Int)) = ((100 + k : Nat) : Int) by omega] at hjn
        simp only [full_no (show 64 ≤ k by omega) (show k ≤ 1000 by omega)] at hjn
        rw [show ((100 + k : Nat) : Int) = 100 + (k : Int) by omega] at hjn
        have hop := fun (w' : World) (h : SatL w' (LogR pb (logF (gk 64)) :: [old w])) => open_ok h
        rw [show (logF (gk 64)).L.length = 64 from gk_len 64] at hop
        have hk64 : ¬ (k : Int) < 64 := by omega
        have E2 := hid e2
        clear e1 e2
        go_wp2_with (first
          | (go_at_call 24; (with_reducible refine hp.mono ?_); rintro e w4 ⟨r, rfl, pa, pc, rfl, i1, i2, h4⟩; have h5 := hjn _ _ _ _ (h4.alloc (.cells #[.int .i64 (100 + (k : Int)), .slice pa 512 pc] 29)))
          | (go_at_call 23; (with_reducible refine h5.mono ?_); rintro e w5 ⟨r, rfl, rfl, h6⟩)
          | (go_at_call 25; (with_reducible refine (hop _ h6).mono ?_); rintro e w6 ⟨r, rfl, rfl, h7⟩))
        go_roundw
        case rel => exact ⟨k + 1, by omega, by go_num, by rw [E2.out]; exact h7⟩
        case measure => simp [intOf]; omega
    · obtain rfl : k = n := by omega
      by_cases hz : k = 0
      · subst hz
        have h4 := start_none hs rfl rfl
        have hph := fun (w' : World) (h : SatL w' (LogR pb (logF (gk 0)) :: [old w])) => phase_ok h
        rw [show ((logF (gk 0)).phase : Int) = 0 from rfl] at hph
        go_wp2_with (first
          | (go_at_call 26; (with_reducible refine h4.mono ?_); rintro e w4 ⟨r, rfl, rfl, h5⟩)
          | (go_at_call 27; (with_reducible refine (hph _ h5).mono ?_); rintro e w5 ⟨r, rfl, rfl, h6⟩))
        go_ret
        exact ⟨_, rfl, rfl, h6.to⟩
      · obtain ⟨c, hc⟩ : ∃ c : Nat, c = min k 64 := ⟨_, rfl⟩
        have hc1 : 0 < c := by omega
        have hc64 : c ≤ 64 := by omega
        rw [← hc] at hs
        have hcc : (64 < k ∧ c = 64) ∨ (k ≤ 64 ∧ c = k) := by omega
        have hwi := fun (w : World) => within_ok a1 c (by omega) w
        have hb0 := within_bd a1 c (by omega)
        obtain ⟨j, hj⟩ : ∃ j : Nat, (j : Int) = withinI a1 c := ⟨(withinI a1 c).toNat, by omega⟩
        rw [← hj] at hwi hb0
        have hjc : j < c := by omega
        have hp := put_ok (at_ := 100 + (j : Int)) (sz := 0) (b := 200) (by omega) hs
        rw [show putN 0 = 512 from rfl, show ((200 : Nat) : Int) = 200 from rfl] at hp
        have hjn := fun (w' : World) (nb : Nat) (a : Option Addr) (cc : Nat) (h : SatL w' (cl nb 29 #[.int .i64 (100 + (j : Int)), .slice a 512 cc] :: SlB 5 (.slice a 512 cc) (putB 512 200) :: LogR pb (logF (gk c)) :: [old w])) => join_one (b := 0) (putB_len 512 200) h
        rw [show (100 + (j : Int)) = ((100 + j : Nat) : Int) by omega] at hjn
        simp only [full_again hc64 hjc] at hjn
        have hfi := fun (w' : World) (h : SatL w' (LogR pb (logF (gkx c j)) :: [old w])) => find_ok (b := ((100 + j : Nat) : Int)) h
        simp only [full_find hjc, Option.getD_some, Option.isSome_some] at hfi
        rw [show ((100 + j : Nat) : Int) = 100 + (j : Int) by omega] at hjn hfi
        have hop := fun (w' : World) (L : List HP) (h : SatL w' (LogR pb (logF (gkx c j)) :: L)) => open_ok h
        rw [show (logF (gkx c j)).L.length = c by show ((gk c).set j _).length = c; rw [List.length_set, gk_len]] at hop
        have hpu := fun (w' : World) (L : List HP) (h : SatL w' L) => put_ok (at_ := 0) (sz := 0) (b := 200) (by omega) h
        simp only [show putN 0 = 512 from rfl, show ((200 : Nat) : Int) = 200 from rfl] at hpu
        have hkz : ¬ (k : Int) = 0 := by omega
        have hk70 : (k : Int) < 70 := by omega
        clear hb0 hj hc hlt hkn hz
        rcases hcc with ⟨hcc, rfl⟩ | ⟨hcc, rfl⟩
        all_goals try simp only [show ((64 : Nat) : Int) = 64 from rfl] at hwi hop
        · have h64 : (64 : Int) < k := by omega
          go_upto_region 18 with (first
            | (go_at_call 21; (with_reducible refine (hwi _).mono ?_); rintro e w2 ⟨rfl, rfl⟩)
            | (go_at_call 24; (with_reducible refine hp.mono ?_); rintro e w4 ⟨r, rfl, pa, pc, rfl, i1, i2, h4⟩; have h5 := hjn _ _ _ _ (h4.alloc (.cells #[.int .i64 (100 + (j : Int)), .slice pa 512 pc] 29)))
            | (go_at_call 23; (with_reducible refine h5.mono ?_); rintro e w5 ⟨r, rfl, rfl, h6⟩)
            | (go_at_call 28; (with_reducible refine (hfi _ h6).mono ?_); rintro e w6 ⟨r, rfl, fv, rfl, h7⟩))
          obtain ⟨fa, fc, rfl, f1, f2⟩ := SlB.valn h7
          rw [putB_len] at h7 f1
          have h8 := SatL.swap (sat_drew.2 h7)
          rw [putB_len]
          clear h5 h6 h7 hs hp hjn hfi hwi
          clear hpu
          have hpu := fun (w' : World) (L : List HP) (h : SatL w' L) => (put_ok (at_ := 0) (sz := 0) (b := 200) (by omega) h)
          simp only [show putN 0 = 512 from rfl, show ((200 : Nat) : Int) = 200 from rfl] at hpu
          have hfl := field_put
          have v6 := RdB.conv (SlB.rd (SatL.pull h8 1 : SatL w6.drew (SlB _ _ _ :: _)))
          go_region_held (fun w' => (convert 27 9 (.slice fa 512 fc)).run Try.prog w' = .ok (.string ⟨(putB 512 200).toArray⟩) w') (first | (with_reducible exact v6) | (with_reducible exact v7) | (with_reducible exact v8) | go_keep) (first
            | (go_at_call 25; (with_reducible refine (hop _ _ h8).mono ?_); rintro e w7 ⟨r, rfl, rfl, h9⟩; have v7 := RdB.conv (SlB.rd (SatL.pull h9 1 : SatL w7 (SlB _ _ _ :: _))); have hp2 := hpu _ _ h9)
            | (go_at_call 24; (with_reducible refine hp2.mono ?_); rintro e w8 ⟨r, rfl, pa2, pc2, rfl, i3, i4, h10⟩; have v8 := RdB.conv (SlB.rd (SatL.pull h10 2 : SatL w8 (SlB _ _ _ :: _))); have v9 := RdB.conv (SlB.rd h10))
            | fail "no")
          all_goals
            go_wp2
            go_ret
            exact ⟨_, rfl, by simp, h10.to⟩
        · have h64 : (c : Int) ≤ 64 := by omega
          have h65 : ¬ (64 : Int) < c := by omega
          have h66 : ∀ w : World, (Builtin.min_ #[3, 3] 3 #[.int .i64 (c : Int), .int .i64 64]).run Try.prog w = .ok (.int .i64 (c : Int)) w := by
            intro w
            have e : (Builtin.min_ #[3, 3] 3 #[.int .i64 (c : Int), .int .i64 64]).run Try.prog w = .ok (.int .i64 (if (64 : Int) < c then 64 else (c : Int))) w := rfl
            rw [e, if_neg h65]
          go_upto_region 18 with (first
            | (go_at_call 21; (with_reducible refine (hwi _).mono ?_); rintro e w2 ⟨rfl, rfl⟩)
            | (go_at_call 24; (with_reducible refine hp.mono ?_); rintro e w4 ⟨r, rfl, pa, pc, rfl, i1, i2, h4⟩; have h5 := hjn _ _ _ _ (h4.alloc (.cells #[.int .i64 (100 + (j : Int)), .slice pa 512 pc] 29)))
            | (go_at_call 23; (with_reducible refine h5.mono ?_); rintro e w5 ⟨r, rfl, rfl, h6⟩)
            | (go_at_call 28; (with_reducible refine (hfi _ h6).mono ?_); rintro e w6 ⟨r, rfl, fv, rfl, h7⟩))
          obtain ⟨fa, fc, rfl, f1, f2⟩ := SlB.valn h7
          rw [putB_len] at h7 f1
          have h8 := SatL.swap (sat_drew.2 h7)
          rw [putB_len]
          clear h5 h6 h7 hs hp hjn hfi hwi
          clear hpu
          have hpu := fun (w' : World) (L : List HP) (h : SatL w' L) => (put_ok (at_ := 0) (sz := 0) (b := 200) (by omega) h)
          simp only [show putN 0 = 512 from rfl, show ((200 : Nat) : Int) = 200 from rfl] at hpu
          have hfl := field_put
          have v6 := RdB.conv (SlB.rd (SatL.pull h8 1 : SatL w6.drew (SlB _ _ _ :: _)))
          go_region_held (fun w' => (convert 27 9 (.slice fa 512 fc)).run Try.prog w' = .ok (.string ⟨(putB 512 200).toArray⟩) w') (first | (with_reducible exact v6) | (with_reducible exact v7) | (with_reducible exact v8) | go_keep) (first
            | (go_at_call 25; (with_reducible refine (hop _ _ h8).mono ?_); rintro e w7 ⟨r, rfl, rfl, h9⟩; have v7 := RdB.conv (SlB.rd (SatL.pull h9 1 : SatL w7 (SlB _ _ _ :: _))); have hp2 := hpu _ _ h9)
            | (go_at_call 24; (with_reducible refine hp2.mono ?_); rintro e w8 ⟨r, rfl, pa2, pc2, rfl, i3, i4, h10⟩; have v8 := RdB.conv (SlB.rd (SatL.pull h10 2 : SatL w8 (SlB _ _ _ :: _))); have v9 := RdB.conv (SlB.rd h10))
            | fail "no")
          all_goals
            go_wp2
            go_ret
            exact ⟨_, rfl, by simp, h10.to⟩
end Go.Proofs.Ytjjnadlklfegcaa
