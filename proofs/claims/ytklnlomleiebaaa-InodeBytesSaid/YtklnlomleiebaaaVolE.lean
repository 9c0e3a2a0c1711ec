/- A volume's calls where they fail: nothing is free, a bit is not set, a number is none of the volume's. -/
import Derived.Test.YtklnlomleiebaaaVolS
namespace Go.Proofs.Ytklnlomleiebaaa
set_option linter.unusedVariables false
set_option linter.unusedSimpArgs false
open Go.RowKit

section
variable {w : World} {L : List HP} {vb mb i tb dt : Nat} {rows : List (Option (List UInt8))} {puts : Puts}
set_option maxRecDepth 100000 in
set_option maxHeartbeats 2000000 in
theorem take_full {fr n : Nat} {U : Nat → Bool} (h : SatL w (ViewR vb mb i tb dt rows puts :: L)) (hfr : fr + n ≤ rows.length) (hr5 : Rows512 rows) (hp5 : Puts512 puts) (hn : rows.length ≤ 1000000)
    (hb : ∀ k, k < n → viewAt rows puts (fr + k) = bitsN 512 (fun j => U (k * 4096 + j))) (hU : ∀ j, j < n * 4096 → U j = true) :
    Calls Try.prog 45 #[.pointer (some ⟨vb, 0, none⟩), .int .i64 fr, .int .i64 n] w (Ret fun v w' => v = .tuple #[.int .i64 0, errno 7] ∧ SatL w' (ViewR vb mb i tb dt rows puts :: L)) := by
  have hget := fun (w : World) (h : SatL w (ViewR vb mb i tb dt rows puts :: L)) (k : Nat) (hk : k < n) => get_ok (k := fr + k) h (by omega) hr5 hp5 hn
  have n1 : n ≤ 1000000 := by omega
  have n2 : fr ≤ 1000000 := by omega
  clear hr5 hp5 hn hfr
  go_enter Try.func45, Try.ntmps45
  go_wp2
  go_loopw [15] (fun kk wr => ∃ k : Nat, k ≤ n ∧ kk = .int .i64 k ∧ SatL wr (ViewR vb mb i tb dt rows puts :: L)) (fun kk _ => n - (intOf kk).toNat)
  case atStart => exact ⟨0, by omega, rfl, h⟩
  case round =>
    clear h
    obtain ⟨k, hk, rfl, hs⟩ := hrel
    by_cases hkn : k < n
    · have hg := hget _ hs k hkn
      rw [hb k hkn, Int.natCast_add] at hg
      clear hget hb
      go_wp2_with (go_at_call 16; (with_reducible refine hg.mono ?_); rintro e w1 ⟨v, rfl, dv, rfl, hs1⟩; obtain ⟨av, cv, rfl, q1, q2⟩ := Sl.valn hs1 (m := 512) (by rw [bvs_len, bitsN_len]); obtain ⟨b, off, rfl⟩ := Sl.addr hs1 (by omega))
      go_loopw [31] (fun ii wr => ∃ q : Nat, q ≤ 512 ∧ ii = .int .i64 q ∧ SatL wr (SlB 5 (.slice (some ⟨b, off, none⟩) 512 cv) (bitsN 512 (fun j => U (k * 4096 + j))) :: ViewR vb mb i tb dt rows puts :: L)) (fun ii _ => 512 - (intOf ii).toNat)
      case atStart => exact ⟨0, by omega, rfl, hs1⟩
      case round =>
        clear hs1 hs hg
        obtain ⟨q, hq, rfl, hs⟩ := hrel
        by_cases hq5 : q < 512
        · have hc := SlB.cell hs (i := q) (by rw [bitsN_len]; exact hq5)
          rw [bitsN_getD _ hq5] at hc
          have q5 : (q : Int) < 512 := by omega
          have hx : (bitByte (fun j => U (k * 4096 + j)) q).toNat = 255 := bitByte_full (fun t ht => hU _ (by omega))
          rw [hx] at hc
          clear hU
          go_wp2
          go_roundw
          case rel => exact ⟨q + 1, by omega, by go_num, hs⟩
          case measure => simp [intOf]; omega
        · obtain rfl : q = 512 := by omega
          clear hU
          go_wp2
          go_roundw
          case rel => exact ⟨k + 1, by omega, by go_num, hs.tail⟩
          case measure => simp [intOf]; omega
    · obtain rfl : k = n := by omega
      clear hget hb hU
      go_wp2
      go_ret2
      exact Ret.mk ⟨rfl, hs⟩

end
section
variable {w : World} {L : List HP} {vb b i : Nat} {U V : Nat → Bool}
set_option maxRecDepth 100000 in
set_option maxHeartbeats 1000000 in
theorem volTakeB_full (hg : planGood b i) (he : planErr b i = 0) (h : SatL w (VolR vb b i U V :: L)) (hU : ∀ j, j < (tableN b - 69) * 4096 → U j = true) :
    Calls Try.prog 33 #[.pointer (some ⟨vb, 0, none⟩)] w (Ret fun v w' => v = .tuple #[.int .i64 0, errno 7] ∧ SatL w' (VolR vb b i U V :: L)) := by
  obtain ⟨n1, n2, n3, n4, n5, n6⟩ := VolR.nat hg he
  obtain ⟨puts, mb, hP, hs⟩ := sat_VolR.1 h
  have htk := take_full (fr := 69) (n := tableN b - 69) (U := U) (sat_drew.2 hs) (by rw [mkRows_len]; omega) mkRows_512 hP.1 (by rw [mkRows_len]; omega) hP.2.1 hU
  obtain ⟨_, _, _, c6, c7, _⟩ := view_cells (sat_drew.2 hs)
  have e1 : IntKind.i64.wrap ((tableN b : Int) - 69) = ((tableN b - 69 : Nat) : Int) := by rw [IntWalk.i64_in _ (by omega)]; omega
  rw [← e1, show ((69 : Nat) : Int) = 69 from rfl] at htk
  have hP' := hid hP
  clear hs h hP e1 hU
  generalize hT : tableN b = tb at *
  have HT := hid hT
  clear hT
  go_enter Try.func33, Try.ntmps33
  go_wp2
  go_region_held3 (fun w' => w'.cell? ⟨vb, 6, none⟩ = some (.int .i64 69) ∧ w'.cell? ⟨vb, 7, none⟩ = some (.int .i64 tb))
    (first | exact ⟨c6, c7⟩ | exact ⟨m6, m7⟩ | go_keep)
    (first
      | (go_at_call 45; (with_reducible refine htk.mono ?_); rintro e w2 ⟨v, rfl, rfl, hs1⟩; obtain ⟨_, _, _, m6, m7, _⟩ := view_cells hs1))
  go_wp2
  go_ret2
  obtain rfl := HT.out
  exact Ret.mk ⟨rfl, sat_VolR.2 ⟨_, _, hP'.out, hs1⟩⟩
/-- the cells that GiveBlock and GiveInode ask -/
theorem vol_cells (h : SatL w (VolR vb b i U V :: L)) : w.cell? ⟨vb, 1, none⟩ = some (.int .i64 b) ∧ w.cell? ⟨vb, 2, none⟩ = some (.int .i64 i) ∧ w.cell? ⟨vb, 5, none⟩ = some (.int .i64 68) ∧ w.cell? ⟨vb, 6, none⟩ = some (.int .i64 69) ∧ w.cell? ⟨vb, 8, none⟩ = some (.int .i64 (dataN b i)) := by
  obtain ⟨puts, mb, hP, hs⟩ := sat_VolR.1 h
  obtain ⟨c1, c2, c5, c6, c7, c8⟩ := view_cells hs
  rw [mkRows_len] at c1
  exact ⟨c1, c2, c5, c6, c8⟩
end
end Go.Proofs.Ytklnlomleiebaaa
