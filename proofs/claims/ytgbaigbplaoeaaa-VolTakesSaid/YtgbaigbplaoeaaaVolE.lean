/- A volume's calls where they fail: nothing is free, a bit is not set, a number is none of the volume's. -/
import Derived.Test.YtgbaigbplaoeaaaVolS
namespace Go.Proofs.Ytgbaigbplaoeaaa
set_option linter.unusedVariables false
set_option linter.unusedSimpArgs false
open Go.RowKit

section
variable {w : World} {L : List HP} {vb i tb dt : Nat} {rows : List (Option (List UInt8))} {puts : Puts}
set_option maxRecDepth 100000 in
set_option maxHeartbeats 2000000 in
theorem take_full {fr n : Nat} {U : Nat → Bool} (h : SatL w (ViewR vb i tb dt rows puts :: L)) (hfr : fr + n ≤ rows.length) (hr5 : Rows512 rows) (hp5 : Puts512 puts) (hn : rows.length ≤ 1000000)
    (hb : ∀ k, k < n → viewAt rows puts (fr + k) = bitsN 512 (fun j => U (k * 4096 + j))) (hU : ∀ j, j < n * 4096 → U j = true) :
    Calls Try.prog 43 #[.pointer (some ⟨vb, 0, none⟩), .int .i64 fr, .int .i64 n] w (Ret fun v w' => v = .tuple #[.int .i64 0, errno 7] ∧ SatL w' (ViewR vb i tb dt rows puts :: L)) := by
  have hget := fun (w : World) (h : SatL w (ViewR vb i tb dt rows puts :: L)) (k : Nat) (hk : k < n) => get_ok (k := fr + k) h (by omega) hr5 hp5 hn
  have n1 : n ≤ 1000000 := by omega
  have n2 : fr ≤ 1000000 := by omega
  clear hr5 hp5 hn hfr
  go_enter Try.func43, Try.ntmps43
  go_wp2
  go_loopw [15] (fun kk wr => ∃ k : Nat, k ≤ n ∧ kk = .int .i64 k ∧ SatL wr (ViewR vb i tb dt rows puts :: L)) (fun kk _ => n - (intOf kk).toNat)
  case atStart => exact ⟨0, by omega, rfl, h⟩
  case round =>
    clear h
    obtain ⟨k, hk, rfl, hs⟩ := hrel
    by_cases hkn : k < n
    · have hg := hget _ hs k hkn
      rw [hb k hkn, Int.natCast_add] at hg
      clear hget hb
      go_wp2_with (go_at_call 33; (with_reducible refine hg.mono ?_); rintro e w1 ⟨v, rfl, dv, rfl, hs1⟩; obtain ⟨av, cv, rfl, q1, q2⟩ := Sl.valn hs1 (m := 512) (by rw [bvs_len, bitsN_len]); obtain ⟨b, off, rfl⟩ := Sl.addr hs1 (by omega))
      go_loopw [31] (fun ii wr => ∃ q : Nat, q ≤ 512 ∧ ii = .int .i64 q ∧ SatL wr (SlB 5 (.slice (some ⟨b, off, none⟩) 512 cv) (bitsN 512 (fun j => U (k * 4096 + j))) :: ViewR vb i tb dt rows puts :: L)) (fun ii _ => 512 - (intOf ii).toNat)
      case atStart => exact ⟨0, by omega, rfl, hs1⟩
      case round =>
        clear hs1 hs hg
        obtain ⟨q, hq, rfl, hs⟩ := hrel
        by_cases hq5 : q < 512
        · have hc := SlB.cell hs (i := q) (by rw [bitsN_len]; exact hq5)
          rw [bitsN_getD _ hq5] at hc
          have q5 : (q : Int) < 512 := by omega
          have hx : (bitByte (fun j => U (k * 4096 + j)) q).toNat = 255 := bitByte_full (fun t ht => hU _ (by omega))
          rw [hx] at hc
          clear hU
          go_wp2
          go_roundw
          case rel => exact ⟨q + 1, by omega, by go_num, hs⟩
          case measure => simp [intOf]; omega
        · obtain rfl : q = 512 := by omega
          clear hU
          go_wp2
          go_roundw
          case rel => exact ⟨k + 1, by omega, by go_num, hs.tail⟩
          case measure => simp [intOf]; omega
    · obtain rfl : k = n := by omega
      clear hget hb hU
      go_wp2
      go_ret2
      exact Ret.mk ⟨rfl, hs⟩

set_option maxRecDepth 100000 in
set_option maxHeartbeats 2000000 in
theorem give_none {fr j : Nat} {P : Nat → Bool} (h : SatL w (ViewR vb i tb dt rows puts :: L)) (hfr : fr + j / 4096 < rows.length) (hj : j ≤ 1000000) (hr5 : Rows512 rows) (hp5 : Puts512 puts) (hn : rows.length ≤ 1000000)
    (hb : viewAt rows puts (fr + j / 4096) = bitsN 512 P) (hP : P (j % 4096) = false) :
    Calls Try.prog 44 #[.pointer (some ⟨vb, 0, none⟩), .int .i64 fr, .int .i64 j] w (Ret fun v w' => v = errno 2 ∧ SatL w' (ViewR vb i tb dt rows puts :: L)) := by
  have hg := get_ok (k := fr + j / 4096) h hfr hr5 hp5 hn
  rw [hb] at hg
  have n2 : fr ≤ 1000000 := by omega
  have e1 : (j : Int) / 4096 = ((j / 4096 : Nat) : Int) := rfl
  have e2 : (j : Int) % 4096 = ((j % 4096 : Nat) : Int) := rfl
  have e3 : j % 4096 < 4096 := Nat.mod_lt _ (by omega)
  have e4 : j / 4096 ≤ 1000000 := by omega
  clear hr5 hp5 hn hfr h hb
  generalize j / 4096 = K at *
  generalize j % 4096 = m at *
  rw [Int.natCast_add] at hg
  have f1 : (m : Int) / 8 = ((m / 8 : Nat) : Int) := rfl
  have f2 : (m : Int) % 8 = ((m % 8 : Nat) : Int) := rfl
  have hbit := bitByte_bit P (m / 8) (m % 8) (by omega)
  rw [if_neg (by rw [show 8 * (m / 8) + m % 8 = m by omega, hP]; decide)] at hbit
  have q5 : m / 8 < 512 := by omega
  have s8 : m % 8 < 8 := Nat.mod_lt _ (by omega)
  have hgd : (bitsN 512 P).getD (m / 8) 0 = bitByte P (m / 8) := bitsN_getD P q5
  generalize hX : (bitByte P (m / 8)).toNat = x at *
  have hxl : x < 256 := by rw [← hX]; exact u8_lt _
  generalize m / 8 = q at *
  generalize m % 8 = s at *
  have e5 : bits .and .u8 ((x : Int) / 2 ^ s) 1 = 0 := by rw [and_shr_u8 x s hxl, hbit]; rfl
  have q6 : (q : Int) < 512 := by omega
  have Hgd := hid hgd
  have HX := hid hX
  clear hgd hX hbit hP
  go_enter Try.func44, Try.ntmps44
  go_wp2_with (go_at_call 33; (refine hg.mono ?_); rintro e w1 ⟨v, rfl, dv, rfl, hs⟩; obtain ⟨av, cv, rfl, q1, q2⟩ := Sl.valn hs (m := 512) (by rw [bvs_len, bitsN_len]); obtain ⟨b, off, rfl⟩ := Sl.addr hs (by omega); have hc := SlB.cell hs (i := q) (by rw [bitsN_len]; exact q5); rw [Hgd.out, HX.out] at hc)
  go_ret
  exact Ret.mk ⟨rfl, SatL.tail hs⟩
end
section
variable {w : World} {L : List HP} {vb b i : Nat} {U V : Nat → Bool}
set_option maxRecDepth 100000 in
set_option maxHeartbeats 1000000 in
theorem volTakeB_full (hg : planGood b i) (he : planErr b i = 0) (h : SatL w (VolR vb b i U V :: L)) (hU : ∀ j, j < (tableN b - 69) * 4096 → U j = true) :
    Calls Try.prog 18 #[.pointer (some ⟨vb, 0, none⟩)] w (Ret fun v w' => v = .tuple #[.int .i64 0, errno 7] ∧ SatL w' (VolR vb b i U V :: L)) := by
  obtain ⟨n1, n2, n3, n4, n5, n6⟩ := VolR.nat hg he
  obtain ⟨puts, hP, hs⟩ := sat_VolR.1 h
  have htk := take_full (fr := 69) (n := tableN b - 69) (U := U) (sat_drew.2 hs) (by rw [mkRows_len]; omega) mkRows_512 hP.1 (by rw [mkRows_len]; omega) hP.2.1 hU
  obtain ⟨_, _, _, c6, c7, _⟩ := view_cells (sat_drew.2 hs)
  have e1 : IntKind.i64.wrap ((tableN b : Int) - 69) = ((tableN b - 69 : Nat) : Int) := by rw [IntWalk.i64_in _ (by omega)]; omega
  rw [← e1, show ((69 : Nat) : Int) = 69 from rfl] at htk
  have hP' := hid hP
  clear hs h hP e1 hU
  generalize hT : tableN b = tb at *
  have HT := hid hT
  clear hT
  go_enter Try.func18, Try.ntmps18
  go_wp2
  go_region_held3 (fun w' => w'.cell? ⟨vb, 6, none⟩ = some (.int .i64 69) ∧ w'.cell? ⟨vb, 7, none⟩ = some (.int .i64 tb))
    (first | exact ⟨c6, c7⟩ | exact ⟨m6, m7⟩ | go_keep)
    (first
      | (go_at_call 43; (with_reducible refine htk.mono ?_); rintro e w2 ⟨v, rfl, rfl, hs1⟩; obtain ⟨_, _, _, m6, m7, _⟩ := view_cells hs1))
  go_wp2
  go_ret2
  obtain rfl := HT.out
  exact Ret.mk ⟨rfl, sat_VolR.2 ⟨_, hP'.out, hs1⟩⟩
theorem volTakeI_full (hg : planGood b i) (he : planErr b i = 0) (h : SatL w (VolR vb b i U V :: L)) (hU : ∀ j, j < 4096 → V j = true) :
    Calls Try.prog 20 #[.pointer (some ⟨vb, 0, none⟩)] w (Ret fun v w' => v = .tuple #[.int .i64 0, errno 7] ∧ SatL w' (VolR vb b i U V :: L)) := by
  obtain ⟨n1, n2, n3, n4, n5, n6⟩ := VolR.nat hg he
  obtain ⟨puts, hP, hs⟩ := sat_VolR.1 h
  have htk := take_full (fr := 68) (n := 1) (U := V) hs (by rw [mkRows_len]; omega) mkRows_512 hP.1 (by rw [mkRows_len]; omega) (fun k hk => by have hk0 : k = 0 := (by omega); subst hk0; rw [Nat.add_zero, hP.2.2]; exact bitsN_congr fun t ht => by rw [Nat.zero_mul, Nat.zero_add]) (fun j hj => hU j (by omega))
  obtain ⟨_, _, c5, _, _, _⟩ := view_cells hs
  rw [show ((68 : Nat) : Int) = 68 from rfl, show ((1 : Nat) : Int) = 1 from rfl] at htk
  have hP' := hid hP
  clear hU hs h hP
  go_enter Try.func20, Try.ntmps20
  go_wp2_with (go_at_call 43; (with_reducible refine htk.mono ?_); rintro e w2 ⟨v, rfl, rfl, hs1⟩)
  go_ret2
  exact Ret.mk ⟨rfl, sat_VolR.2 ⟨_, hP'.out, hs1⟩⟩

/-- the cells that GiveBlock and GiveInode ask -/
theorem vol_cells (h : SatL w (VolR vb b i U V :: L)) : w.cell? ⟨vb, 1, none⟩ = some (.int .i64 b) ∧ w.cell? ⟨vb, 2, none⟩ = some (.int .i64 i) ∧ w.cell? ⟨vb, 5, none⟩ = some (.int .i64 68) ∧ w.cell? ⟨vb, 6, none⟩ = some (.int .i64 69) ∧ w.cell? ⟨vb, 8, none⟩ = some (.int .i64 (dataN b i)) := by
  obtain ⟨puts, hP, hs⟩ := sat_VolR.1 h
  obtain ⟨c1, c2, c5, c6, c7, c8⟩ := view_cells hs
  rw [mkRows_len] at c1
  exact ⟨c1, c2, c5, c6, c8⟩
set_option maxHeartbeats 1000000 in
theorem volGiveB_arg {j : Int} (h : SatL w (VolR vb b i U V :: L)) (hj : j < dataN b i ∨ (b : Int) ≤ j) :
    Calls Try.prog 19 #[.pointer (some ⟨vb, 0, none⟩), .int .i64 j] w (Ret fun v w' => v = errno 1 ∧ SatL w' (VolR vb b i U V :: L)) := by
  obtain ⟨c1, c2, c5, c6, c8⟩ := vol_cells h
  have hj2 : j < dataN b i ∨ (¬ j < dataN b i ∧ ¬ j < b) := by omega
  generalize hD : dataN b i = dt at *
  clear hj hD
  rcases hj2 with h1 | ⟨h1, h2⟩
  all_goals
    go_enter Try.func19, Try.ntmps19
    go_wp2
    go_ret
    exact Ret.mk ⟨rfl, h⟩
set_option maxHeartbeats 1000000 in
theorem volGiveI_arg {j : Int} (h : SatL w (VolR vb b i U V :: L)) (hj : j < 2 ∨ (i : Int) ≤ j) :
    Calls Try.prog 22 #[.pointer (some ⟨vb, 0, none⟩), .int .i64 j] w (Ret fun v w' => v = errno 1 ∧ SatL w' (VolR vb b i U V :: L)) := by
  obtain ⟨c1, c2, c5, c6, c8⟩ := vol_cells h
  have hj2 : j < 2 ∨ (¬ j < 2 ∧ ¬ j < i) := by omega
  clear hj
  rcases hj2 with h1 | ⟨h1, h2⟩
  all_goals
    go_enter Try.func22, Try.ntmps22
    go_wp2
    go_ret
    exact Ret.mk ⟨rfl, h⟩
set_option maxHeartbeats 1000000 in
theorem volGiveB_none {j : Nat} (hg : planGood b i) (he : planErr b i = 0) (h : SatL w (VolR vb b i U V :: L)) (hd : dataN b i ≤ j) (hjb : j < b) (hU : U j = false) :
    Calls Try.prog 19 #[.pointer (some ⟨vb, 0, none⟩), .int .i64 j] w (Ret fun v w' => v = errno 2 ∧ SatL w' (VolR vb b i U V :: L)) := by
  obtain ⟨n1, n2, n3, n4, n5, n6⟩ := VolR.nat hg he
  obtain ⟨puts, hP, hs⟩ := sat_VolR.1 h
  have hgv := give_none (fr := 69) (j := j) hs (by rw [mkRows_len]; omega) (by omega) mkRows_512 hP.1 (by rw [mkRows_len]; omega) (hP.2.1 (j / 4096) (by omega)) (by show U (j / 4096 * 4096 + j % 4096) = false; rw [show j / 4096 * 4096 + j % 4096 = j by omega]; exact hU)
  rw [show ((69 : Nat) : Int) = 69 from rfl] at hgv
  obtain ⟨c1, c2, c5, c6, c8⟩ := vol_cells h
  have hP' := hid hP
  have e1 : ¬ ((j : Int) < dataN b i) := by omega
  have e2 : (j : Int) < b := by omega
  generalize hD : dataN b i = dt at *
  have HD := hid hD
  clear hP hs h hU hd hjb hD
  go_enter Try.func19, Try.ntmps19
  go_wp2_with (go_at_call 44; (with_reducible refine hgv.mono ?_); rintro e w2 ⟨v, rfl, rfl, hs1⟩)
  go_ret
  obtain rfl := HD.out
  exact Ret.mk ⟨rfl, sat_VolR.2 ⟨_, hP'.out, hs1⟩⟩
set_option maxHeartbeats 1000000 in
theorem volGiveI_none {j : Nat} (hg : planGood b i) (he : planErr b i = 0) (h : SatL w (VolR vb b i U V :: L)) (hd : 2 ≤ j) (hjb : j < i) (hU : V j = false) :
    Calls Try.prog 22 #[.pointer (some ⟨vb, 0, none⟩), .int .i64 j] w (Ret fun v w' => v = errno 2 ∧ SatL w' (VolR vb b i U V :: L)) := by
  obtain ⟨n1, n2, n3, n4, n5, n6⟩ := VolR.nat hg he
  obtain ⟨puts, hP, hs⟩ := sat_VolR.1 h
  have hgv := give_none (fr := 68) (j := j) (P := V) hs (by rw [mkRows_len]; omega) (by omega) mkRows_512 hP.1 (by rw [mkRows_len]; omega) (by rw [show j / 4096 = 0 by omega]; exact hP.2.2) (by rw [show j % 4096 = j by omega]; exact hU)
  rw [show ((68 : Nat) : Int) = 68 from rfl] at hgv
  obtain ⟨c1, c2, c5, c6, c8⟩ := vol_cells h
  have hP' := hid hP
  have e1 : ¬ ((j : Int) < 2) := by omega
  have e2 : (j : Int) < i := by omega
  clear hP hs h hU hd hjb
  go_enter Try.func22, Try.ntmps22
  go_wp2_with (go_at_call 44; (with_reducible refine hgv.mono ?_); rintro e w2 ⟨v, rfl, rfl, hs1⟩)
  go_ret
  exact Ret.mk ⟨rfl, sat_VolR.2 ⟨_, hP'.out, hs1⟩⟩
set_option maxHeartbeats 1000000 in
theorem volGiveI {j : Nat} (hg : planGood b i) (he : planErr b i = 0) (h : SatL w (VolR vb b i U V :: L)) (hd : 2 ≤ j) (hjb : j < i) (hU : V j = true) :
    Calls Try.prog 22 #[.pointer (some ⟨vb, 0, none⟩), .int .i64 j] w (Ret fun v w' => v = .nilIface ∧ SatL w' (VolR vb b i U (fun t => V t && !(t == j)) :: L)) := by
  obtain ⟨n1, n2, n3, n4, n5, n6⟩ := VolR.nat hg he
  obtain ⟨puts, hP, hs⟩ := sat_VolR.1 h
  have hgv := give_ok (fr := 68) (j := j) (P := V) hs (by rw [mkRows_len]; omega) (by omega) mkRows_512 hP.1 (by rw [mkRows_len]; omega) (by rw [show j / 4096 = 0 by omega]; exact hP.2.2) (by rw [show j % 4096 = j by omega]; exact hU)
  rw [show j / 4096 = 0 by omega, show j % 4096 = j by omega, Nat.add_zero, show ((68 : Nat) : Int) = 68 from rfl] at hgv
  obtain ⟨c1, c2, c5, c6, c8⟩ := vol_cells h
  have hP' := hid hP
  have e1 : ¬ ((j : Int) < 2) := by omega
  have e2 : (j : Int) < i := by omega
  clear hP hs h hU hd hjb
  go_enter Try.func22, Try.ntmps22
  go_wp2_with (go_at_call 44; (with_reducible refine hgv.mono ?_); rintro e w2 ⟨v, rfl, rfl, hs1⟩)
  go_ret
  exact Ret.mk ⟨rfl, sat_VolR.2 ⟨_, hP'.out.upI (fun t _ => rfl), hs1⟩⟩
end
end Go.Proofs.Ytgbaigbplaoeaaa
