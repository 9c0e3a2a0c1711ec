/- Recover of the program. No condition beside the size that it names. -/
import Derived.Test.YtjjnadlklfegcaaCollect
import Derived.Test.YtjjnadlklfegcaaWalRef
import Derived.Test.YtjjnadlklfegcaaWalLog
import Derived.Test.YtjjnadlklfegcaaLaw8B
import Derived.Deep.Cut
import Derived.Deep.CutRange
import Derived.Deep.RegionLaw
import Derived.Deep.RegionHeld3
import Derived.Deep.QuietTactic
import Derived.BigQuiet
import Derived.RegionTactic
import Derived.BigRegion
namespace Go.Proofs.Ytjjnadlklfegcaa
set_option linter.unusedVariables false
set_option linter.unusedSimpArgs false
open Go.RowKit

theorem RdB.chunk {w : World} {b off n c : Nat} {bs : List UInt8} (h : RdB (.slice (some ⟨b, off, none⟩) n c) bs w) {i : Nat} (hi : 512 * (i + 1) ≤ bs.length) : RdB (chunkV b off i) (rowAt bs i) w := by
  have hl := rowAt_len hi
  rcases h with ⟨h, _⟩ | ⟨b', off', c', h0, h1, h2, h3⟩
  · cases h
  · cases h0
    refine .inr ⟨b, off + 512 * i, 512, by rw [hl], by omega, by omega, fun k hk => ?_⟩
    rw [hl] at hk
    rw [Nat.add_assoc, h3 (512 * i + k) (by omega)]
    congr 4
    rw [List.getD_eq_getElem?_getD, List.getD_eq_getElem?_getD, rowAt_get, if_pos hk]
theorem RdB.pre {w : World} {b off n c : Nat} {l : List UInt8} (h : RdB (.slice (some ⟨b, off, none⟩) n c) l w) {j : Nat} (hj : j ≤ l.length) : RdB (.slice (some ⟨b, off, none⟩) j c) (l.take j) w := by
  have := h.sub (i := 0) (j := j) (by omega) hj
  simpa using this
/-- the rows of a log, as far as the n-th -/
theorem rows_pre {w : World} {L : List HP} {b off rb ro rc n : Nat} {bs : List UInt8} {rs : List Value} (hrs : (List.range 66).map (chunkV b off) = rs) (h : SatL w (Sl 27 (.slice (some ⟨rb, ro, none⟩) 66 rc) rs :: L))
    (hr : ∀ i, i < 66 → RdB (chunkV b off i) (rowAt bs i) w) (hn : n ≤ 66) : RdRows (.slice (some ⟨rb, ro, none⟩) n rc) ((List.range n).map (rowAt bs)) w := by
  obtain ⟨_, h2, h3⟩ := Sl.lenEq h
  unfold maxLen at h3
  refine .inr ⟨rb, ro, rc, by simp, by simp; omega, by omega, fun i hi => ?_⟩
  have hi2 : i < n := by simpa using hi
  refine ⟨chunkV b off i, Sl.cell h (by rw [← hrs, List.getElem?_map, List.getElem?_range (by omega)]; rfl), ?_⟩
  have := hr i (by omega)
  simpa [List.getD, hi2] using this
theorem take_rows_eq {bs : List UInt8} {n : Nat} (h : 512 * n ≤ bs.length) : ((List.range n).map (rowAt bs)).flatten = bs.take (512 * n) := rowAt_flatten n h
def RecovPost (L : List HP) (bs : List UInt8) (r : Value) (w' : World) : Prop := ∃ ov, r = .tuple #[.int .u64 ((recov bs).1 : Nat), ov, .int .i64 (recov bs).2.2] ∧ SatL w' (PutsL ov (recov bs).2.1 :: L)
theorem recov_no {L : List HP} {bs : List UInt8} {w : World} {e : Int} (he : Hid (recov bs = (0, [], e))) (h : SatL w L) : RecovPost L bs (.tuple #[.int .u64 0, .slice none 0 0, .int .i64 e]) w := by
  refine ⟨.slice none 0 0, by rw [he.out]; rfl, ?_⟩
  rw [he.out]
  exact sat_PutsL.2 ⟨[], rfl, sat_PutsR.2 (SlK_nil ((big_nil (f := fun p : Pt => SlB 5 p.v p.d)).2 h))⟩
theorem results3 {fn : Func} {t u v : Nat} (hr : fn.results = #[.tmp t, .tmp u, .tmp v]) (P : Program) (tmps : Array Value) (w : World) :
    (results fn tmps).run P w = .ok (.tuple #[tmps.getD t undef, tmps.getD u undef, tmps.getD v undef]) w := by
  unfold results; rw [hr]; simp

section
variable {w : World} {L : List HP}
set_option maxRecDepth 100000 in
set_option maxHeartbeats 40000000 in
theorem recover_ok {v : Value} {bs : List UInt8} (hl : bs.length ≤ 1000000) (h : SatL w L) (g : Gives L (RdB v bs)) :
    Calls Try.prog 17 #[v] w (Ret (RecovPost L bs)) := by
  obtain ⟨a, c, rfl, p1, p2⟩ := (g w h).valn
  by_cases hlen : bs.length = 33792
  · obtain ⟨b, off, rfl⟩ : ∃ b off, a = some ⟨b, off, none⟩ := by
      obtain ⟨_, _, _, b, off, h1, _⟩ := (g w h).at (by omega)
      exact ⟨b, off, h1⟩
    rw [hlen] at g p1 ⊢
    have hck := chunk_ok (some ⟨b, off, none⟩) 33792 c w
    have k1 := (h.alloc (.cells #[.slice (some ⟨b, off, none⟩) 33792 c] 27)).allocN (n := w.heap.size + 1) (.cells #[.int .i64 512] 3) (by simp)
    have hcl := collect_ok (m := 66) (by omega) (by omega) p1 p2 k1.swap
    have hrow : ∀ (i : Nat), i < 66 → ((List.range 66).map (chunkV b off))[i]? = some (.slice (some ⟨b, off + 512 * i, none⟩) 512 512) := fun i hi => by rw [List.getElem?_map, List.getElem?_range hi]; rfl
    have hrl : ((List.range 66).map (chunkV b off)).length = 66 := by simp
    generalize hrs : (List.range 66).map (chunkV b off) = rs at *
    have hrd := fun (w' : World) (h : SatL w' L) (i : Nat) (hi : i < 66) => RdB.chunk (i := i) (g w' h) (by omega)
    have hr5 : ∀ i, i < 66 → (rowAt bs i).length = 512 := fun i hi => rowAt_len (by omega)
    have hle := fun (w' : World) (h : SatL w' L) => le_in (at_ := 8) (k := 8) (.inr (.inr (.inr rfl))) (by rw [hr5 0 (by omega)]; omega) (hrd w' h 0 (by omega))
    have hg16 := fun (w' : World) (h : SatL w' L) => get_ok (at_ := 16) (by rw [hr5 0 (by omega)]; omega) (hrd w' h 0 (by omega))
    have hg508 := fun (w' : World) (h : SatL w' L) => get_ok (at_ := 508) (by rw [hr5 0 (by omega)]; omega) (hrd w' h 0 (by omega))
    have hcr := fun (w' : World) (h : SatL w' L) => crc_ok (RdRows.one (T := 27) (v := .slice (some ⟨b, off + 512 * 0, none⟩) 508 512) (c := 1) (h.alloc (.cells #[.slice (some ⟨b, off + 512 * 0, none⟩) 508 512] 27)) (RdB.pre (hrd _ (h.alloc _).tail 0 (by omega)) (by rw [hr5 0 (by omega)]; omega)) (by omega) (by omega))
    have hcv := fun (w' : World) (h : SatL w' L) => RdB.conv (RdB.pre (j := 8) (hrd w' h 0 (by omega)) (by rw [hr5 0 (by omega)]; omega))
    rw [show numAt (rowAt bs 0) 16 4 = countOf bs from rfl] at hg16
    rw [show leN (((rowAt bs 0).drop 8).take 8) = seqOf bs from rfl] at hle
    simp only [chunkV, Nat.mul_zero, Nat.add_zero, show ((8 : Nat) : Int) = 8 from rfl, show ((16 : Nat) : Int) = 16 from rfl, show ((508 : Nat) : Int) = 508 from rfl] at hcr hcv hle hg16 hg508
    go_enter Try.func17, Try.ntmps17
    go_upto_region 7 with (first
      | (go_at_call 52; (with_reducible refine hck.mono ?_); rintro e w1 ⟨rfl, rfl⟩)
      | (go_at_call 51; (with_reducible refine hcl.mono ?_); rintro e w2 ⟨v2, rfl, hs2⟩; obtain ⟨ra, rc, rfl, q1, q2⟩ := Sl.valn hs2 hrl; obtain ⟨rb, ro, rfl⟩ := Sl.addr hs2 (by omega); have c0 := Sl.cell hs2 (hrow 0 (by omega)); rw [Nat.add_zero, Nat.mul_zero, Nat.add_zero] at c0)
      | (go_at_call 53; (with_reducible refine (hle _ hs2.tail).mono ?_); rintro e w3 ⟨rfl, rfl⟩)
      | (go_at_call 54; (with_reducible refine (hg16 _ hs2.tail).mono ?_); rintro e w4 ⟨rfl, rfl⟩))
    have cv := hcv w2.drew hs2.tail
    have cv2 := hcv (w2.alloc (.cells #[.slice (some ⟨b, off, none⟩) 508 512] 27)).drew (hs2.alloc _).tail.tail
    have ga := hg508 w2.drew hs2.tail
    have gb := hg508 (w2.alloc (.cells #[.slice (some ⟨b, off, none⟩) 508 512] 27)).drew (hs2.alloc _).tail.tail
    have hc7 : Calls Try.prog 46 #[.slice (some ⟨w2.heap.size, 0, none⟩) 1 1] (w2.alloc (.cells #[.slice (some ⟨b, off, none⟩) 508 512] 27)).drew (fun e w' => e = .returned (.int .u32 (crcN ((rowAt bs 0).take 508) : Nat)) ∧ (w2.alloc (.cells #[.slice (some ⟨b, off, none⟩) 508 512] 27)).drew = w') := by
      have := hcr w2.drew hs2.tail
      rw [show [(rowAt bs 0).take 508].flatten = (rowAt bs 0).take 508 by simp] at this
      exact this
    have hk2 := hs2.alloc (.cells #[.slice (some ⟨b, off, none⟩) 508 512] 27)
    have hH : headGood bs ↔ (rowAt bs 0).take 8 = wordH ∧ numAt (rowAt bs 0) 508 4 = crcN ((rowAt bs 0).take 508) ∧ 1 ≤ countOf bs ∧ countOf bs ≤ 64 := Iff.rfl
    have hCl : countOf bs < 4294967296 := numAt_lt _ _
    have hSl := crcN_lt ((rowAt bs 0).take 508)
    clear hcl hck k1 hle hg16 hg508 hcr
    go_cut [52] from 31 to 52 (fun v52 wr => v52 = .bool (!decide (headGood bs)) ∧ SatL wr (Sl 27 (.slice (some ⟨rb, ro, none⟩) 66 rc) rs :: L))
    case first =>
      have m0 : (w2.alloc (.cells #[.slice (some ⟨b, off, none⟩) 508 512] 27)).drew.cell? ⟨rb, ro, none⟩ = some (.slice (some ⟨b, off, none⟩) 512 512) := by
        have := Sl.cell (SatL.pull (sat_drew.2 hk2) 1 : SatL _ (Sl _ _ _ :: _)) (hrow 0 (by omega))
        simpa using this
      have hw : IntKind.i64.wrap ((crcN ((rowAt bs 0).take 508) : Nat) : Int) = ((crcN ((rowAt bs 0).take 508) : Nat) : Int) := IntWalk.i64_in _ (by omega)
      by_cases h8 : (rowAt bs 0).take 8 = wordH
      · rw [h8, show (⟨wordH.toArray⟩ : ByteArray) = { data := #[71, 82, 78, 72, 69, 65, 68, 49] } from rfl] at cv cv2
        by_cases hsum : numAt (rowAt bs 0) 508 4 = crcN ((rowAt bs 0).take 508)
        · have hne : (((numAt (rowAt bs 0) 508 4 : Nat) : Int) != ((crcN ((rowAt bs 0).take 508) : Nat) : Int)) = false := by rw [hsum]; simp
          by_cases hn1 : countOf bs < 1
          · have Hno := hid (show decide (headGood bs) = false from decide_eq_false (fun k => by have := k.2.2.1; omega))
            have d1 : ((countOf bs : Nat) : Int) < 1 := by omega
            generalize countOf bs = C at *
            generalize numAt (rowAt bs 0) 508 4 = S1 at *
            generalize crcN ((rowAt bs 0).take 508) = S2 at *
            clear hsum h8 hH
            first | go_region_held (fun w' => w'.cell? ⟨rb, ro, none⟩ = some (.slice (some ⟨b, off, none⟩) 512 512)) (first | exact c0 | exact m0 | go_keep) (first
              | (go_at_call 54; first | ((with_reducible refine ga.mono ?_); rintro e w4 ⟨rfl, rfl⟩) | ((with_reducible refine gb.mono ?_); rintro e w4 ⟨rfl, rfl⟩))
              | (go_at_call 46; (with_reducible refine hc7.mono ?_); rintro e w5 ⟨rfl, rfl⟩)
              | fail "no") | fail "region"
            all_goals
              go_wp2_with fail
              go_meet
              exact ⟨by rw [Hno.out]; rfl, by first | exact sat_drew.2 hs2 | exact sat_drew.2 hk2.tail⟩
          · have d1 : decide (((countOf bs : Nat) : Int) < 1) = false := decide_eq_false (by omega)
            by_cases hn2 : 64 < countOf bs
            · have Hno := hid (show decide (headGood bs) = false from decide_eq_false (fun k => by have := k.2.2.2; omega))
              have d2 : (64 : Int) < ((countOf bs : Nat) : Int) := by omega
              generalize countOf bs = C at *
              generalize numAt (rowAt bs 0) 508 4 = S1 at *
              generalize crcN ((rowAt bs 0).take 508) = S2 at *
              clear hsum h8 hH
              first | go_region_held (fun w' => w'.cell? ⟨rb, ro, none⟩ = some (.slice (some ⟨b, off, none⟩) 512 512)) (first | exact c0 | exact m0 | go_keep) (first
                | (go_at_call 54; first | ((with_reducible refine ga.mono ?_); rintro e w4 ⟨rfl, rfl⟩) | ((with_reducible refine gb.mono ?_); rintro e w4 ⟨rfl, rfl⟩))
                | (go_at_call 46; (with_reducible refine hc7.mono ?_); rintro e w5 ⟨rfl, rfl⟩)
                | fail "no") | fail "region"
              all_goals
                go_wp2_with fail
                go_meet
                exact ⟨by rw [Hno.out]; rfl, by first | exact sat_drew.2 hs2 | exact sat_drew.2 hk2.tail⟩
            · have Hno := hid (show decide (headGood bs) = true from decide_eq_true ⟨h8, hsum, by omega, by omega⟩)
              have d2 : decide ((64 : Int) < ((countOf bs : Nat) : Int)) = false := decide_eq_false (by omega)
              generalize countOf bs = C at *
              generalize numAt (rowAt bs 0) 508 4 = S1 at *
              generalize crcN ((rowAt bs 0).take 508) = S2 at *
              clear hsum h8 hH
              first | go_region_held (fun w' => w'.cell? ⟨rb, ro, none⟩ = some (.slice (some ⟨b, off, none⟩) 512 512)) (first | exact c0 | exact m0 | go_keep) (first
                | (go_at_call 54; first | ((with_reducible refine ga.mono ?_); rintro e w4 ⟨rfl, rfl⟩) | ((with_reducible refine gb.mono ?_); rintro e w4 ⟨rfl, rfl⟩))
                | (go_at_call 46; (with_reducible refine hc7.mono ?_); rintro e w5 ⟨rfl, rfl⟩)
                | fail "no") | fail "region"
              all_goals
                go_wp2_with fail
                go_meet
                exact ⟨by rw [Hno.out]; rfl, by first | exact sat_drew.2 hs2 | exact sat_drew.2 hk2.tail⟩
        · have Hno := hid (show decide (headGood bs) = false from decide_eq_false (fun k => hsum k.2.1))
          have hne : (((numAt (rowAt bs 0) 508 4 : Nat) : Int) != ((crcN ((rowAt bs 0).take 508) : Nat) : Int)) = true := bne_iff_ne.2 (by omega)
          generalize numAt (rowAt bs 0) 508 4 = S1 at *
          generalize crcN ((rowAt bs 0).take 508) = S2 at *
          clear hsum h8 hH
          first | go_region_held (fun w' => w'.cell? ⟨rb, ro, none⟩ = some (.slice (some ⟨b, off, none⟩) 512 512)) (first | exact c0 | exact m0 | go_keep) (first
            | (go_at_call 54; first | ((with_reducible refine ga.mono ?_); rintro e w4 ⟨rfl, rfl⟩) | ((with_reducible refine gb.mono ?_); rintro e w4 ⟨rfl, rfl⟩))
            | (go_at_call 46; (with_reducible refine hc7.mono ?_); rintro e w5 ⟨rfl, rfl⟩)
            | fail "no") | fail "region"
          all_goals
            go_wp2_with fail
            go_meet
            exact ⟨by rw [Hno.out]; rfl, by first | exact sat_drew.2 hs2 | exact sat_drew.2 hk2.tail⟩
      · have Hno := hid (show decide (headGood bs) = false from decide_eq_false (fun k => h8 k.1))
        have hs8 : ((⟨((rowAt bs 0).take 8).toArray⟩ : ByteArray).toList == [71, 82, 78, 72, 69, 65, 68, 49]) = false := by
          rw [beq_eq_false_iff_ne]
          intro e
          rw [ByteArray.toList_eq] at e
          exact h8 e
        have cvq := fun m => hcv (w2.drewN m) ((sat_drewN m).2 hs2.tail)
        have hs9 : ¬ ((⟨((rowAt bs 0).take 8).toArray⟩ : ByteArray).toList = [71, 82, 78, 72, 69, 65, 68, 49]) := beq_eq_false_iff_ne.1 hs8
        generalize (⟨((rowAt bs 0).take 8).toArray⟩ : ByteArray) = s8 at *
        clear h8 hH
        go_quiet (fail)
        go_wp2_with fail
        go_meet
        exact ⟨by rw [Hno.out]; rfl, (sat_drewN _).2 hs2⟩
    case rest =>
      obtain ⟨rfl, hs⟩ := hcut
      have hrv : recov bs = if recovGood bs then (seqOf bs, gotOf bs, 0) else (0, [], 2) := by unfold recov; rw [if_neg (by omega)]
      by_cases hg : headGood bs
      · have hb : (!decide (headGood bs)) = false := by rw [decide_eq_true hg]; rfl
        rw [hb]
        obtain ⟨g8, gsum, gn1, gn2⟩ := hg
        have hr1 : rs[1 + countOf bs]? = some (.slice (some ⟨b, off + 512 * (1 + countOf bs), none⟩) 512 512) := hrow _ (by omega)
        have htr := fun (w' : World) (h : SatL w' L) => hrd w' h (1 + countOf bs) (by omega)
        have htl := hr5 (1 + countOf bs) (by omega)
        rw [show rowAt bs (1 + countOf bs) = tailOf bs from rfl] at htr htl
        have hle8 := fun (w' : World) (h : SatL w' L) => le_in (at_ := 8) (k := 8) (.inr (.inr (.inr rfl))) (by rw [htl]; omega) (htr w' h)
        rw [show leN (((tailOf bs).drop 8).take 8) = numAt (tailOf bs) 8 8 from rfl] at hle8
        have hg16 := fun (w' : World) (h : SatL w' L) => get_ok (at_ := 16) (by rw [htl]; omega) (htr w' h)
        have hcv8 := fun (w' : World) (h : SatL w' L) => RdB.conv (RdB.pre (j := 8) (htr w' h) (by rw [htl]; omega))
        have ct := Sl.cell hs hr1
        have hT : tailGood bs ↔ (tailOf bs).take 8 = wordT ∧ numAt (tailOf bs) 8 8 = seqOf bs ∧ numAt (tailOf bs) 16 4 = crcN (bs.take (512 * (1 + countOf bs))) := Iff.rfl
        have hcr := fun (w' : World) (h : SatL w' (Sl 27 (.slice (some ⟨rb, ro, none⟩) 66 rc) rs :: L)) => crc_ok (rows_pre (bs := bs) (n := 1 + countOf bs) (b := b) (off := off) hrs h (fun i hi => hrd w' h.tail i hi) (by omega))
        rw [take_rows_eq (by omega)] at hcr
        simp only [chunkV, show ((8 : Nat) : Int) = 8 from rfl, show ((16 : Nat) : Int) = 16 from rfl] at hle8 hg16 hcv8
        have e1 : (1 : Int) + ((countOf bs : Nat) : Int) = ((1 + countOf bs : Nat) : Int) := by omega
        have hx66 : (((1 + countOf bs : Nat) : Int)) < 66 := by omega
        generalize hX : 1 + countOf bs = X at *
        have HX := hid hX
        clear hX
        go_upto_region 11 with (first
          | (go_at_call 53; (with_reducible refine (hle8 _ hs.tail).mono ?_); rintro e w3 ⟨rfl, rfl⟩))
        have gq := fun (m : Nat) => (hg16 (wc.drewN m) ((sat_drewN m).2 hs.tail)).mono (R' := fun e w' => e = .returned (.int .i64 (numAt (tailOf bs) 16 4 : Nat)) ∧ w' = wc.drewN m) (fun _ _ h => ⟨h.1, h.2.symm⟩)
        have cq := fun (m : Nat) => (hcr (wc.drewN m) ((sat_drewN m).2 hs)).mono (R' := fun e w' => e = .returned (.int .u32 (crcN (bs.take (512 * X)) : Nat)) ∧ w' = wc.drewN m) (fun _ _ h => ⟨h.1, h.2.symm⟩)
        have vq := fun (m : Nat) => hcv8 (wc.drewN m) ((sat_drewN m).2 hs.tail)
        have hwT : IntKind.i64.wrap ((crcN (bs.take (512 * X)) : Nat) : Int) = ((crcN (bs.take (512 * X)) : Nat) : Int) := IntWalk.i64_in _ (by have := crcN_lt (bs.take (512 * X)); omega)
        go_cut [82] from 63 to 82 (fun v82 wr => v82 = .bool (!decide (tailGood bs)) ∧ SatL wr (Sl 27 (.slice (some ⟨rb, ro, none⟩) 66 rc) rs :: L))
        case first =>
          clear cv cv2 ga gb hc7 hk2 hH hrow hrl hrd hr5 hcv hle8 hg16 hcv8 hcr c0 ct htr htl hr1
          by_cases h8 : (tailOf bs).take 8 = wordT
          · rw [h8, show (⟨wordT.toArray⟩ : ByteArray) = { data := #[71, 82, 78, 84, 65, 73, 76, 49] } from rfl] at vq
            by_cases hse : numAt (tailOf bs) 8 8 = seqOf bs
            · have d1 : (((numAt (tailOf bs) 8 8 : Nat) : Int) != ((seqOf bs : Nat) : Int)) = false := by rw [hse]; simp
              by_cases hsu : numAt (tailOf bs) 16 4 = crcN (bs.take (512 * X))
              · have d2 : (((numAt (tailOf bs) 16 4 : Nat) : Int) != ((crcN (bs.take (512 * X)) : Nat) : Int)) = false := by rw [hsu]; simp
                have Hno := hid (show decide (tailGood bs) = true from decide_eq_true (hT.2 ⟨h8, hse, hsu⟩))
                generalize numAt (tailOf bs) 8 8 = T1 at *
                generalize seqOf bs = T2 at *
                generalize numAt (tailOf bs) 16 4 = T3 at *
                generalize crcN (bs.take (512 * X)) = T4 at *
                clear hT h8 hse hsu hrv
                go_quiet (first | (go_at_call 54; (with_reducible exact Calls.quiet_of_same (gq _))) | (go_at_call 46; (with_reducible exact Calls.quiet_of_same (cq _))))
                go_wp2_with fail
                go_meet
                exact ⟨by rw [Hno.out]; rfl, (sat_drewN _).2 hs⟩
              · have d2 : (((numAt (tailOf bs) 16 4 : Nat) : Int) != ((crcN (bs.take (512 * X)) : Nat) : Int)) = true := bne_iff_ne.2 (by omega)
                have Hno := hid (show decide (tailGood bs) = false from decide_eq_false (fun k => hsu (hT.1 k).2.2))
                generalize numAt (tailOf bs) 8 8 = T1 at *
                generalize seqOf bs = T2 at *
                generalize numAt (tailOf bs) 16 4 = T3 at *
                generalize crcN (bs.take (512 * X)) = T4 at *
                clear hT h8 hse hsu hrv
                go_quiet (first | (go_at_call 54; (with_reducible exact Calls.quiet_of_same (gq _))) | (go_at_call 46; (with_reducible exact Calls.quiet_of_same (cq _))))
                go_wp2_with fail
                go_meet
                exact ⟨by rw [Hno.out]; rfl, (sat_drewN _).2 hs⟩
            · have d1 : (((numAt (tailOf bs) 8 8 : Nat) : Int) != ((seqOf bs : Nat) : Int)) = true := bne_iff_ne.2 (by omega)
              have Hno := hid (show decide (tailGood bs) = false from decide_eq_false (fun k => hse (hT.1 k).2.1))
              generalize numAt (tailOf bs) 8 8 = T1 at *
              generalize seqOf bs = T2 at *
              generalize numAt (tailOf bs) 16 4 = T3 at *
              generalize crcN (bs.take (512 * X)) = T4 at *
              clear hT h8 hse hrv
              go_quiet (fail)
              go_wp2_with fail
              go_meet
              exact ⟨by rw [Hno.out]; rfl, (sat_drewN _).2 hs⟩
          · have Hno := hid (show decide (tailGood bs) = false from decide_eq_false (fun k => h8 (hT.1 k).1))
            have hs8 : ((⟨((tailOf bs).take 8).toArray⟩ : ByteArray).toList == [71, 82, 78, 84, 65, 73, 76, 49]) = false := by
              rw [beq_eq_false_iff_ne]
              intro e
              rw [ByteArray.toList_eq] at e
              exact h8 e
            generalize (⟨((tailOf bs).take 8).toArray⟩ : ByteArray) = s8 at *
            clear h8 hT hrv
            go_quiet (fail)
            go_wp2_with fail
            go_meet
            exact ⟨by rw [Hno.out]; rfl, (sat_drewN _).2 hs⟩
        case rest =>
          obtain ⟨rfl, hs9⟩ := hcut
          by_cases hgT : tailGood bs
          · have hb2 : (!decide (tailGood bs)) = false := by rw [decide_eq_true hgT]; rfl
            rw [hb2]
            have HgT := hid hgT
            have Hrv := hid hrv
            have Hg := hid (show headGood bs from hH.2 ⟨g8, gsum, gn1, gn2⟩)
            have hX2 := HX.out
            clear hgT hrv hH cv cv2 ga gb hc7 hk2 hcv hle8 hg16 hcv8 hcr c0 ct htr htl hr1 gq cq vq hT g8 gsum hb hb2 hs2 hs hwT
            have hg20 := fun (w' : World) (h : SatL w' L) (j : Nat) (hj : j < countOf bs) => get_ok (at_ := 20 + 4 * j) (by rw [hr5 0 (by omega)]; omega) (hrd w' h 0 (by omega))
            simp only [chunkV, Nat.mul_zero, Nat.add_zero] at hg20
            go_wp2
            have hs0 : SatL wc (PutsR (.slice none 0 0) [] :: Sl 27 (.slice (some ⟨rb, ro, none⟩) 66 rc) rs :: L) := sat_PutsR.2 (SlK_nil ((big_nil (f := fun p : Pt => SlB 5 p.v p.d)).2 hs9))
            go_loopw [13, 84] (fun ov i wr => ∃ (j : Nat) (qs : List Pt), j ≤ countOf bs ∧ i = .int .i64 j ∧ pds qs = gotTo bs j ∧ SatL wr (PutsR ov qs :: Sl 27 (.slice (some ⟨rb, ro, none⟩) 66 rc) rs :: L)) (fun _ i _ => countOf bs - (intOf i).toNat)
            case atStart => exact ⟨0, [], by omega, rfl, rfl, hs0⟩
            case round =>
              clear hs0 hs9
              obtain ⟨j, qs, hj, rfl, hq, hs⟩ := hrel
              have hql : qs.length = j := by rw [← pds_len, hq, gotTo_len]
              by_cases hlt : j < countOf bs
              · have hj66 : 1 + j < 66 := by omega
                have hsn := hid (gotTo_snoc bs j)
                have hpr := sat_PutsR.1 hs
                rw [hql] at hpr
                obtain ⟨oa, oc, rfl, q3, q4⟩ := SlK.valn hpr
                have hrj := hrow (1 + j) hj66
                have m0 := Sl.cell (SatL.pull (sat_drew.2 hs) 1 : SatL _ (Sl _ _ _ :: _)) hrj
                have hgj := hg20 wr.drew (SatL.tail (SatL.tail (sat_drew.2 hs))) j hlt
                have hcl := clone_rd (xs := rowAt bs (1 + j)) (sat_drew.2 hpr) (fun w' h' => hrd w' (SatL.tail (SatL.tail (SatL.tail h'))) (1 + j) hj66) (by rw [hr5 _ hj66]; omega)
                simp only [chunkV] at hcl
                have hrl5 := hr5 _ hj66
                have e3 : IntKind.i64.wrap ((1 : Int) + (j : Int)) = ((1 + j : Nat) : Int) := IntWalk.i64_in _ (by omega) |>.trans (by omega)
                have e4 : IntKind.i64.wrap ((4 : Int) * (j : Int)) = ((4 * j : Nat) : Int) := IntWalk.i64_in _ (by omega) |>.trans (by omega)
                have e5 : IntKind.i64.wrap ((20 : Int) + ((4 * j : Nat) : Int)) = ((20 + 4 * j : Nat) : Int) := IntWalk.i64_in _ (by omega) |>.trans (by omega)
                have z1 : ((1 + j : Nat) : Int) < 66 := by omega
                have z2 : ((20 + 4 * j : Nat) : Int) < 512 := by omega
                have z3 : (j : Int) < 64 := by omega
                have b2 : (j + 1) * 32 ≤ 140737488355328 := by omega
                have b9 : 0 < 32 := by omega
                generalize rowAt bs (1 + j) = rj at *
                generalize numAt (rowAt bs 0) (20 + 4 * j) 4 = nj at *
                generalize hx1 : 1 + j = x1 at *
                generalize hx2 : 20 + 4 * j = x2 at *
                generalize 4 * j = y4 at *
                have Hx1 := hid hx1
                have Hq := hid hq
                have Hql := hid hql
                have Hrl := hid hrl5
                clear hx1 hx2 hq hql hrl5 hrd hr5 hrow hg20 hrl hX2
                go_wp2_with fail
                go_region_held3 (fun w' => w'.cell? ⟨rb, ro + x1, none⟩ = some (.slice (some ⟨b, off + 512 * x1, none⟩) 512 512)) (first | exact m0 | go_keep) (first
                  | (go_at_call 54; (with_reducible refine hgj.mono ?_); rintro e w4 ⟨rfl, rfl⟩)
                  | (go_at_call 47; (with_reducible refine hcl.mono ?_); rintro e w7 ⟨v7, rfl, h7⟩; obtain ⟨ca, cc, rfl, q7, q8⟩ := Sl.valn h7 (m := 512) (by rw [bvs_len, Hrl.out]); have m0 := Sl.cell (SatL.pull h7 3 : SatL _ (Sl _ _ _ :: _)) hrj)
                  | (refine step_pushK_sl rfl rfl (.tmp 87) (.tmp 100) rfl elem_put b9 rfl (SatL.pull h7 1) rfl rfl (by simp [Value.oneCell']) b2 ?_; intro v9 w9 h10; have m0 := Sl.cell (SatL.pull h10 3 : SatL _ (Sl _ _ _ :: _)) hrj)
                  | fail "no")
                go_wp2_with fail
                go_roundw
                case rel =>
                  have h11 : SatL w9 (SlK 29 2 v9 (qs.length + 1) (pcells qs ++ [.int .i64 nj, .slice ca 512 cc]) :: big (fun p : Pt => SlB 5 p.v p.d) qs :: SlB 5 (.slice ca 512 cc) rj :: Sl 27 (.slice (some ⟨rb, ro, none⟩) 66 rc) rs :: L) := by rw [Hql.out]; exact h10.bring [0, 2, 1]
                  have h12 := PutsL.snoc h11
                  exact ⟨j + 1, qs ++ [(⟨(nj : Int), .slice ca 512 cc, rj⟩ : Pt)], by omega, by go_num, by rw [hsn.out, pds_snoc, Hq.out], h12⟩
                case measure => simp [intOf]; omega
              · obtain rfl : j = countOf bs := by omega
                have htw := twice_ok (v := u13) (ps := qs) hs (fun w' h' => PutsR.rdpts h')
                have hqb : qs.map (·.b) = (gotOf bs).map (·.1) := by
                  have : qs.map (·.b) = (pds qs).map (·.1) := by rw [List.map_map]; rfl
                  rw [this, hq]; rfl
                rw [hqb] at htw
                have Hq := hid (show pds qs = gotOf bs from hq)
                by_cases hnd : ((gotOf bs).map (·.1)).Nodup
                · rw [dupB_no hnd] at htw
                  have Her := hid (show recov bs = (seqOf bs, gotOf bs, 0) by rw [Hrv.out, if_pos ⟨Hg.out, HgT.out, hnd⟩])
                  clear hq hql hqb hlt hj hX2 hnd hrd hr5 hrow hg20 hrl
                  go_wp2_with (go_at_call 43; (with_reducible refine htw.mono ?_); rintro e w9 ⟨v, rfl, rfl, hs9⟩)
                  go_ret3
                  refine Ret.mk ⟨u13, ?_, ?_⟩
                  · rw [Her.out]; rfl
                  · rw [Her.out]
                    exact sat_PutsL.2 ⟨qs, Hq.out, SatL.tail hs9.swap⟩
                · rw [dupB_yes hnd] at htw
                  have he := hid (show recov bs = (0, [], 2) by rw [Hrv.out, if_neg (fun k => hnd k.2.2)])
                  clear hq hql hqb hlt hj hX2 hnd hrd hr5 hrow hg20 hrl
                  go_wp2_with (go_at_call 43; (with_reducible refine htw.mono ?_); rintro e w9 ⟨v, rfl, rfl, hs9⟩)
                  go_ret3
                  exact Ret.mk (recov_no he (SatL.tail (SatL.tail hs9)))
          · have hb2 : (!decide (tailGood bs)) = true := by rw [decide_eq_false hgT]; rfl
            rw [hb2]
            have he := hid (show recov bs = (0, [], 2) by rw [hrv, if_neg (fun k => hgT k.2.1)])
            clear hrv hgT hH hT
            go_wp2
            go_ret3
            exact Ret.mk (recov_no he hs9.tail)
      · have hb : (!decide (headGood bs)) = true := by rw [decide_eq_false hg]; rfl
        rw [hb]
        have he := hid (show recov bs = (0, [], 2) by rw [hrv, if_neg (fun k => hg k.1)])
        clear hrv hg hH
        go_wp2
        go_ret3
        exact Ret.mk (recov_no he hs.tail)
  · have he := hid (show recov bs = (0, [], 14) by unfold recov; rw [if_pos hlen])
    have hne : ((bs.length : Int) != 33792) = true := by simp; omega
    go_enter Try.func17, Try.ntmps17
    go_wp2
    go_ret3
    exact Ret.mk (recov_no he h)
end
end Go.Proofs.Ytjjnadlklfegcaa
