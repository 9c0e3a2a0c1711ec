/- Recover of the document. No condition beside the size that it names. -/
import Derived.Test.YtjjnadlklfegcaaRecov
namespace Go.Proofs.Ytjjnadlklfegcaa
set_option linter.unusedVariables false
set_option linter.unusedSimpArgs false
open Go.RowKit

theorem rowAt_zero (bs : List UInt8) : rowAt bs 0 = bs.take 512 := by simp [rowAt]
theorem RdB.row0 {w : World} {b off n c : Nat} {bs : List UInt8} (h : RdB (.slice (some ⟨b, off, none⟩) n c) bs w) (hl : bs.length = 33792) : RdB (.slice (some ⟨b, off, none⟩) 512 c) (rowAt bs 0) w := by
  rw [rowAt_zero]
  exact RdB.pre h (by omega)
theorem RdB.rowS {w : World} {b off n c : Nat} {bs : List UInt8} (h : RdB (.slice (some ⟨b, off, none⟩) n c) bs w) {i z1 z2 : Nat} (h1 : z1 = 512 * i) (h2 : z2 = 512 * (i + 1)) (hl : 512 * (i + 1) ≤ bs.length) :
    RdB (.slice (some ⟨b, off + z1, none⟩) (z2 - z1) (c - z1)) (rowAt bs i) w := by
  subst h1 h2
  have := h.sub (i := 512 * i) (j := 512 * (i + 1)) (by omega) hl
  rw [List.drop_take, show 512 * (i + 1) - 512 * i = 512 by omega] at this
  rw [show 512 * (i + 1) - 512 * i = 512 by omega]
  exact this
theorem nodup_range {n : Nat} {f : Nat → Int} : ((List.range n).map f).Nodup ↔ ∀ i k, i < k → k < n → f i ≠ f k := by
  unfold List.Nodup
  rw [List.pairwise_map, List.pairwise_iff_getElem]
  constructor
  · intro h i k hi hk
    have := h i k (by simp; omega) (by simp; omega) hi
    simpa using this
  · intro h i k hi hk hik
    have := h i k hik (by simpa using hk)
    simpa using this
/-- where the i-th block of a log belongs -/
def noF (bs : List UInt8) (i : Nat) : Nat := numAt (rowAt bs 0) (20 + 4 * i) 4
theorem gotTo_get {bs : List UInt8} {n q : Nat} (h : q < n) : (gotTo bs n)[q]? = some ((noF bs q : Int), rowAt bs (1 + q)) := by simp [gotTo, noF, h]
theorem recovGood_no {bs : List UInt8} (h1 : headGood bs) (h2 : tailGood bs) : recovGood bs ↔ ∀ i k, i < k → k < countOf bs → noF bs i ≠ noF bs k := by
  have e : (gotOf bs).map (·.1) = (List.range (countOf bs)).map (fun i => ((noF bs i : Nat) : Int)) := by
    unfold gotOf gotTo; rw [List.map_map]; rfl
  unfold recovGood
  rw [e, nodup_range]
  constructor
  · intro h i k hi hk he
    exact h.2.2 i k hi hk (by rw [he])
  · intro h
    exact ⟨h1, h2, fun i k hi hk he => h i k hi hk (by omega)⟩
theorem got_cell {w : World} {L : List HP} {b off n c j q : Nat} {qs : List Pt} {bs : List UInt8} (h : SatL w (PutsR (.slice (some ⟨b, off, none⟩) n c) qs :: L)) (hq : pds qs = gotTo bs j) (hlt : q < j) :
    w.cell? ⟨b, off + q * 2, none⟩ = some (.int .i64 (noF bs q : Nat)) := by
  have hql : qs.length = j := by rw [← pds_len, hq, gotTo_len]
  have hp : qs[q]? = some qs[q] := List.getElem?_eq_getElem (by omega)
  rw [(PutsR.cell2 h hp).1]
  have h1 := pds_get hp
  rw [hq, gotTo_get hlt] at h1
  injection h1 with h1
  injection h1 with h1 h2
  rw [h1]

section
variable {w : World} {L : List HP}
set_option maxRecDepth 100000 in
set_option maxHeartbeats 40000000 in
theorem refrecover_ok {v : Value} {bs : List UInt8} (hl : bs.length ≤ 1000000) (h : SatL w L) (g : Gives L (RdB v bs)) :
    Calls Try.prog 18 #[v] w (Ret (RecovPost L bs)) := by
  obtain ⟨a, c, rfl, p1, p2⟩ := (g w h).valn
  by_cases hlen : bs.length = 33792
  · obtain ⟨b, off, rfl⟩ : ∃ b off, a = some ⟨b, off, none⟩ := by
      obtain ⟨_, _, _, b, off, h1, _⟩ := (g w h).at (by omega)
      exact ⟨b, off, h1⟩
    rw [hlen] at g p1 ⊢
    have hr5 : ∀ i, i < 66 → (rowAt bs i).length = 512 := fun i hi => rowAt_len (by omega)
    have hr0 := fun (w' : World) (h : SatL w' L) => RdB.row0 (g w' h) hlen
    have h50 := hr5 0 (by omega)
    have hl8 := fun (m : Nat) => refle_in (at_ := 8) (k := 8) (.inr (.inr (.inr rfl))) (by rw [h50]; omega) (hr0 w h)
    have hl16 := refle_in (at_ := 16) (k := 4) (.inr (.inr (.inl rfl))) (by rw [h50]; omega) (hr0 w h)
    have hl508 := refle_in (at_ := 508) (k := 4) (.inr (.inr (.inl rfl))) (by rw [h50]; omega) (hr0 w h)
    rw [show leN (((rowAt bs 0).drop 16).take 4) = countOf bs from rfl] at hl16
    rw [show leN (((rowAt bs 0).drop 508).take 4) = numAt (rowAt bs 0) 508 4 from rfl] at hl508
    have hl8 := hl8 0
    rw [show leN (((rowAt bs 0).drop 8).take 8) = seqOf bs from rfl] at hl8
    simp only [show ((8 : Nat) : Int) = 8 from rfl, show ((16 : Nat) : Int) = 16 from rfl, show ((4 : Nat) : Int) = 4 from rfl, show ((508 : Nat) : Int) = 508 from rfl] at hl8 hl16 hl508
    have hcrq := refcrc_ok (RdB.pre (j := 508) (hr0 w h) (by rw [h50]; omega))
    have hcvq := RdB.conv (RdB.pre (j := 8) (hr0 w h) (by rw [h50]; omega))
    have hH : headGood bs ↔ (rowAt bs 0).take 8 = wordH ∧ numAt (rowAt bs 0) 508 4 = crcN ((rowAt bs 0).take 508) ∧ 1 ≤ countOf bs ∧ countOf bs ≤ 64 := Iff.rfl
    have hCl : countOf bs < 4294967296 := numAt_lt _ _
    have hNl : numAt (rowAt bs 0) 508 4 < 4294967296 := numAt_lt _ _
    have hSl := crcN_lt ((rowAt bs 0).take 508)
    have hp : (512 : Nat) ≤ c := by omega
    go_enter Try.func18, Try.ntmps18
    go_upto_region 7 with (first
      | (go_at_call 55; (with_reducible refine hl8.mono ?_); rintro e w3 ⟨rfl, rfl⟩)
      | (go_at_call 55; (with_reducible refine hl16.mono ?_); rintro e w3 ⟨rfl, rfl⟩)
      | (go_at_call 55; (with_reducible refine hl508.mono ?_); rintro e w3 ⟨rfl, rfl⟩))
    clear hl8 hl16 hl508
    go_cut [62] from 43 to 62 (fun v62 wr => v62 = .bool (!decide (headGood bs)) ∧ SatL wr L)
    case first =>
      have hw : IntKind.u32.wrap ((numAt (rowAt bs 0) 508 4 : Nat) : Int) = ((numAt (rowAt bs 0) 508 4 : Nat) : Int) := u32_in _ hNl
      by_cases h8 : (rowAt bs 0).take 8 = wordH
      · rw [h8, show (⟨wordH.toArray⟩ : ByteArray) = { data := #[71, 82, 78, 72, 69, 65, 68, 49] } from rfl] at hcvq
        by_cases hsum : numAt (rowAt bs 0) 508 4 = crcN ((rowAt bs 0).take 508)
        · have hne : (((numAt (rowAt bs 0) 508 4 : Nat) : Int) != ((crcN ((rowAt bs 0).take 508) : Nat) : Int)) = false := by rw [hsum]; simp
          by_cases hn1 : countOf bs < 1
          · have Hno := hid (show decide (headGood bs) = false from decide_eq_false (fun k => by have := k.2.2.1; omega))
            have d1 : ((countOf bs : Nat) : Int) < 1 := by omega
            generalize countOf bs = C at *
            generalize numAt (rowAt bs 0) 508 4 = S1 at *
            generalize crcN ((rowAt bs 0).take 508) = S2 at *
            clear hsum h8 hH
            go_wp2_with (go_at_call 20; (with_reducible refine hcrq.mono ?_); rintro e w5 ⟨rfl, rfl⟩)
            go_meet
            exact ⟨by rw [Hno.out]; rfl, h⟩
          · have d1 : decide (((countOf bs : Nat) : Int) < 1) = false := decide_eq_false (by omega)
            by_cases hn2 : 64 < countOf bs
            · have Hno := hid (show decide (headGood bs) = false from decide_eq_false (fun k => by have := k.2.2.2; omega))
              have d2 : (64 : Int) < ((countOf bs : Nat) : Int) := by omega
              generalize countOf bs = C at *
              generalize numAt (rowAt bs 0) 508 4 = S1 at *
              generalize crcN ((rowAt bs 0).take 508) = S2 at *
              clear hsum h8 hH
              go_wp2_with (go_at_call 20; (with_reducible refine hcrq.mono ?_); rintro e w5 ⟨rfl, rfl⟩)
              go_meet
              exact ⟨by rw [Hno.out]; rfl, h⟩
            · have Hno := hid (show decide (headGood bs) = true from decide_eq_true ⟨h8, hsum, by omega, by omega⟩)
              have d2 : decide ((64 : Int) < ((countOf bs : Nat) : Int)) = false := decide_eq_false (by omega)
              generalize countOf bs = C at *
              generalize numAt (rowAt bs 0) 508 4 = S1 at *
              generalize crcN ((rowAt bs 0).take 508) = S2 at *
              clear hsum h8 hH
              go_wp2_with (go_at_call 20; (with_reducible refine hcrq.mono ?_); rintro e w5 ⟨rfl, rfl⟩)
              go_meet
              exact ⟨by rw [Hno.out]; rfl, h⟩
        · have Hno := hid (show decide (headGood bs) = false from decide_eq_false (fun k => hsum k.2.1))
          have hne : (((numAt (rowAt bs 0) 508 4 : Nat) : Int) != ((crcN ((rowAt bs 0).take 508) : Nat) : Int)) = true := bne_iff_ne.2 (by omega)
          generalize countOf bs = C at *
          generalize numAt (rowAt bs 0) 508 4 = S1 at *
          generalize crcN ((rowAt bs 0).take 508) = S2 at *
          clear hsum h8 hH
          go_wp2_with (go_at_call 20; (with_reducible refine hcrq.mono ?_); rintro e w5 ⟨rfl, rfl⟩)
          go_meet
          exact ⟨by rw [Hno.out]; rfl, h⟩
      · have Hno := hid (show decide (headGood bs) = false from decide_eq_false (fun k => h8 k.1))
        have hs8 : ((⟨((rowAt bs 0).take 8).toArray⟩ : ByteArray).toList == [71, 82, 78, 72, 69, 65, 68, 49]) = false := by
          rw [beq_eq_false_iff_ne]
          intro e
          rw [ByteArray.toList_eq] at e
          exact h8 e
        generalize (⟨((rowAt bs 0).take 8).toArray⟩ : ByteArray) = s8 at *
        clear h8 hH
        go_wp2_with fail
        go_meet
        exact ⟨by rw [Hno.out]; rfl, h⟩
    case rest =>
      obtain ⟨rfl, hs⟩ := hcut
      clear hcrq hcvq
      have hrv : recov bs = if recovGood bs then (seqOf bs, gotOf bs, 0) else (0, [], 2) := by unfold recov; rw [if_neg (by omega)]
      by_cases hg : headGood bs
      · have hb : (!decide (headGood bs)) = false := by rw [decide_eq_true hg]; rfl
        rw [hb]
        have hg0 := hg
        obtain ⟨g8, gsum, gn1, gn2⟩ := hg0
        obtain ⟨X, hX⟩ : ∃ X, X = countOf bs + 1 := ⟨_, rfl⟩
        obtain ⟨Y, hY⟩ : ∃ Y, Y = countOf bs + 2 := ⟨_, rfl⟩
        obtain ⟨Z1, hZ1⟩ : ∃ Z, Z = 512 * X := ⟨_, rfl⟩
        obtain ⟨Z2, hZ2⟩ : ∃ Z, Z = 512 * Y := ⟨_, rfl⟩
        have w0 : IntKind.i64.wrap ((countOf bs : Nat) : Int) = ((countOf bs : Nat) : Int) := IntWalk.i64_in _ (by omega)
        have w1 : IntKind.i64.wrap (((countOf bs : Nat) : Int) + 1) = ((X : Nat) : Int) := (IntWalk.i64_in _ (by omega)).trans (by omega)
        have w2 : IntKind.i64.wrap (((countOf bs : Nat) : Int) + 2) = ((Y : Nat) : Int) := (IntWalk.i64_in _ (by omega)).trans (by omega)
        have w3 : IntKind.i64.wrap ((512 : Int) * ((X : Nat) : Int)) = ((Z1 : Nat) : Int) := (IntWalk.i64_in _ (by omega)).trans (by omega)
        have w4 : IntKind.i64.wrap ((512 : Int) * ((Y : Nat) : Int)) = ((Z2 : Nat) : Int) := (IntWalk.i64_in _ (by omega)).trans (by omega)
        have z12 : Z1 ≤ Z2 := by omega
        have z2c : Z2 ≤ c := by omega
        have hX66 : X < 66 := by omega
        have htr := RdB.rowS (i := X) (g wc hs) hZ1 (by omega : Z2 = 512 * (X + 1)) (by omega)
        have htl := hr5 X hX66
        have hcn := hid (show tailOf bs = rowAt bs X by rw [hX]; unfold tailOf; rw [Nat.add_comm])
        have Hd := hid (show Z2 - Z1 = 512 by omega)
        have hl8 := refle_in (at_ := 8) (k := 8) (.inr (.inr (.inr rfl))) (by rw [htl]; omega) htr
        have hl16 := refle_in (at_ := 16) (k := 4) (.inr (.inr (.inl rfl))) (by rw [htl]; omega) htr
        rw [show leN (((rowAt bs X).drop 8).take 8) = numAt (rowAt bs X) 8 8 from rfl] at hl8
        rw [show leN (((rowAt bs X).drop 16).take 4) = numAt (rowAt bs X) 16 4 from rfl] at hl16
        simp only [show ((8 : Nat) : Int) = 8 from rfl, show ((16 : Nat) : Int) = 16 from rfl, show ((4 : Nat) : Int) = 4 from rfl] at hl8 hl16
        have hcv8 := RdB.conv (RdB.pre (j := 8) htr (by rw [htl]; omega))
        have hcr := refcrc_ok (RdB.pre (j := Z1) (g wc hs) (by omega))
        have hT : tailGood bs ↔ (rowAt bs X).take 8 = wordT ∧ numAt (rowAt bs X) 8 8 = seqOf bs ∧ numAt (rowAt bs X) 16 4 = crcN (bs.take Z1) := by
          unfold tailGood
          rw [hcn.out, show 512 * (1 + countOf bs) = Z1 by omega]
        have HX := hid hX
        have HY := hid hY
        have HZ1 := hid hZ1
        have HZ2 := hid hZ2
        have z33 : Z2 ≤ 33792 := by omega
        have z81 : 8 ≤ Z2 - Z1 := by omega
        have z8c : 8 ≤ c - Z1 := by omega
        have z1c : Z1 ≤ c := by omega
        clear hX hY hZ1 hZ2 htr
        go_upto_region 13 with (first
          | (go_at_call 55; (with_reducible refine hl8.mono ?_); rintro e w3 ⟨rfl, rfl⟩)
          | (go_at_call 55; (with_reducible refine hl16.mono ?_); rintro e w3 ⟨rfl, rfl⟩))
        clear hl8 hl16
        have hwT : IntKind.u32.wrap ((numAt (rowAt bs X) 16 4 : Nat) : Int) = ((numAt (rowAt bs X) 16 4 : Nat) : Int) := u32_in _ (numAt_lt _ _)
        go_cut [102] from 83 to 102 (fun v102 wr => v102 = .bool (!decide (tailGood bs)) ∧ SatL wr L)
        case first =>
          clear hH hrv hr5 hr0 h50 hcn
          by_cases h8 : (rowAt bs X).take 8 = wordT
          · rw [h8, show (⟨wordT.toArray⟩ : ByteArray) = { data := #[71, 82, 78, 84, 65, 73, 76, 49] } from rfl] at hcv8
            by_cases hse : numAt (rowAt bs X) 8 8 = seqOf bs
            · have d1 : (((numAt (rowAt bs X) 8 8 : Nat) : Int) != ((seqOf bs : Nat) : Int)) = false := by rw [hse]; simp
              by_cases hsu : numAt (rowAt bs X) 16 4 = crcN (bs.take Z1)
              · have d2 : (((numAt (rowAt bs X) 16 4 : Nat) : Int) != ((crcN (bs.take Z1) : Nat) : Int)) = false := by rw [hsu]; simp
                have Hno := hid (show decide (tailGood bs) = true from decide_eq_true (hT.2 ⟨h8, hse, hsu⟩))
                generalize numAt (rowAt bs X) 8 8 = T1 at *
                generalize seqOf bs = T2 at *
                generalize numAt (rowAt bs X) 16 4 = T3 at *
                generalize crcN (bs.take Z1) = T4 at *
                clear hT h8 hse hsu
                go_wp2_with (go_at_call 20; (with_reducible refine hcr.mono ?_); rintro e w5 ⟨rfl, rfl⟩)
                go_meet
                exact ⟨by rw [Hno.out]; rfl, hs⟩
              · have d2 : (((numAt (rowAt bs X) 16 4 : Nat) : Int) != ((crcN (bs.take Z1) : Nat) : Int)) = true := bne_iff_ne.2 (by omega)
                have Hno := hid (show decide (tailGood bs) = false from decide_eq_false (fun k => hsu (hT.1 k).2.2))
                generalize numAt (rowAt bs X) 8 8 = T1 at *
                generalize seqOf bs = T2 at *
                generalize numAt (rowAt bs X) 16 4 = T3 at *
                generalize crcN (bs.take Z1) = T4 at *
                clear hT h8 hse hsu
                go_wp2_with (go_at_call 20; (with_reducible refine hcr.mono ?_); rintro e w5 ⟨rfl, rfl⟩)
                go_meet
                exact ⟨by rw [Hno.out]; rfl, hs⟩
            · have d1 : (((numAt (rowAt bs X) 8 8 : Nat) : Int) != ((seqOf bs : Nat) : Int)) = true := bne_iff_ne.2 (by omega)
              have Hno := hid (show decide (tailGood bs) = false from decide_eq_false (fun k => hse (hT.1 k).2.1))
              generalize numAt (rowAt bs X) 8 8 = T1 at *
              generalize seqOf bs = T2 at *
              generalize numAt (rowAt bs X) 16 4 = T3 at *
              generalize crcN (bs.take Z1) = T4 at *
              clear hT h8 hse
              go_wp2_with fail
              go_meet
              exact ⟨by rw [Hno.out]; rfl, hs⟩
          · have Hno := hid (show decide (tailGood bs) = false from decide_eq_false (fun k => h8 (hT.1 k).1))
            have hs8 : ((⟨((rowAt bs X).take 8).toArray⟩ : ByteArray).toList == [71, 82, 78, 84, 65, 73, 76, 49]) = false := by
              rw [beq_eq_false_iff_ne]
              intro e
              rw [ByteArray.toList_eq] at e
              exact h8 e
            generalize (⟨((rowAt bs X).take 8).toArray⟩ : ByteArray) = s8 at *
            clear h8 hT
            go_wp2_with fail
            go_meet
            exact ⟨by rw [Hno.out]; rfl, hs⟩
        case rest =>
          obtain ⟨rfl, hs9⟩ := hcut
          by_cases hgT : tailGood bs
          · have hb2 : (!decide (tailGood bs)) = false := by rw [decide_eq_true hgT]; rfl
            rw [hb2]
            have Hrg := hid (recovGood_no hg hgT)
            have Hrv := hid hrv
            have hC0 : (0 : Int) ≤ countOf bs := by omega
            clear hgT hg hrv hH hT hb hb2 hs hcr hcv8 g8 gsum hcn htl hwT w0 w1 w2 w3 w4 z12 z2c z33 z81 z8c z1c Hd HX HY HZ1 HZ2 hX66 h hp hl8
            go_wp2
            have hs0 : SatL wc (PutsR (.slice none 0 0) [] :: L) := sat_PutsR.2 (SlK_nil ((big_nil (f := fun p : Pt => SlB 5 p.v p.d)).2 hs9))
            go_loopw [18, 19] (fun ov i wr => ∃ (j : Nat) (qs : List Pt), j ≤ countOf bs ∧ i = .int .i64 j ∧ pds qs = gotTo bs j ∧ (∀ i k, i < k → k < j → noF bs i ≠ noF bs k) ∧ SatL wr (PutsR ov qs :: L)) (fun _ i _ => countOf bs - (intOf i).toNat)
            case atStart => exact ⟨0, [], by omega, rfl, rfl, fun i k _ hk => by omega, hs0⟩
            case round =>
              clear hs0 hs9
              obtain ⟨j, qs, hj, rfl, hq, hnd, hs⟩ := hrel
              have Hnd := hid hnd
              clear hnd
              have hql : qs.length = j := by rw [← pds_len, hq, gotTo_len]
              by_cases hlt : j < countOf bs
              · have hpr := sat_PutsR.1 hs
                rw [hql] at hpr
                obtain ⟨oa, oc, rfl, q3, q4⟩ := SlK.valn hpr
                have hle := refle_in (at_ := 20 + 4 * j) (k := 4) (.inr (.inr (.inl rfl))) (by rw [h50]; omega) (hr0 wr hs.tail)
                rw [show leN (((rowAt bs 0).drop (20 + 4 * j)).take 4) = noF bs j from rfl, show ((4 : Nat) : Int) = 4 from rfl] at hle
                have hnl : noF bs j < 4294967296 := numAt_lt _ _
                have Hsn := hid (gotTo_snoc bs j)
                have Hcell := hid (fun (w' : World) (b' off' q : Nat) (h : SatL w' (PutsR (.slice (some ⟨b', off', none⟩) j oc) qs :: L)) (hqj : q < j) => got_cell h hq hqj)
                rw [show numAt (rowAt bs 0) (20 + 4 * j) 4 = noF bs j from rfl] at Hsn
                obtain ⟨nj, hnj⟩ : ∃ n, noF bs j = n := ⟨_, rfl⟩
                rw [hnj] at hle hnl Hsn
                have Hnj := hid hnj
                have wn : IntKind.i64.wrap ((nj : Nat) : Int) = ((nj : Nat) : Int) := IntWalk.i64_in _ (by omega)
                obtain ⟨x2, hx2⟩ : ∃ x, x = 20 + 4 * j := ⟨_, rfl⟩
                obtain ⟨y4, hy4⟩ : ∃ x, x = 4 * j := ⟨_, rfl⟩
                rw [← hx2] at hle
                have e4 : IntKind.i64.wrap ((4 : Int) * (j : Int)) = ((y4 : Nat) : Int) := (IntWalk.i64_in _ (by omega)).trans (by omega)
                have e5 : IntKind.i64.wrap ((20 : Int) + (y4 : Int)) = ((x2 : Nat) : Int) := (IntWalk.i64_in _ (by omega)).trans (by omega)
                obtain ⟨X, hX⟩ : ∃ X, X = j + 1 := ⟨_, rfl⟩
                obtain ⟨Y, hY⟩ : ∃ Y, Y = j + 2 := ⟨_, rfl⟩
                obtain ⟨Z1, hZ1⟩ : ∃ Z, Z = 512 * X := ⟨_, rfl⟩
                obtain ⟨Z2, hZ2⟩ : ∃ Z, Z = 512 * Y := ⟨_, rfl⟩
                have w1 : IntKind.i64.wrap (((j : Nat) : Int) + 1) = ((X : Nat) : Int) := (IntWalk.i64_in _ (by omega)).trans (by omega)
                have w2 : IntKind.i64.wrap (((j : Nat) : Int) + 2) = ((Y : Nat) : Int) := (IntWalk.i64_in _ (by omega)).trans (by omega)
                have w3 : IntKind.i64.wrap ((512 : Int) * ((X : Nat) : Int)) = ((Z1 : Nat) : Int) := (IntWalk.i64_in _ (by omega)).trans (by omega)
                have w4 : IntKind.i64.wrap ((512 : Int) * ((Y : Nat) : Int)) = ((Z2 : Nat) : Int) := (IntWalk.i64_in _ (by omega)).trans (by omega)
                have z12 : Z1 ≤ Z2 := by omega
                have z33 : Z2 ≤ 33792 := by omega
                have z2c : Z2 ≤ c := by omega
                have hrd := fun (w' : World) (h : SatL w' L) => RdB.rowS (i := X) (g w' h) hZ1 (by omega : Z2 = 512 * (X + 1)) (by omega)
                have hrl5 := hr5 X (by omega)
                rw [show 1 + j = X by omega] at Hsn
                generalize rowAt bs X = rj at *
                have Hrl := hid hrl5
                have Hd := hid (show Z2 - Z1 = 512 by omega)
                have hlj : rj.length ≤ 1000000000 := by omega
                have b2 : (j + 1) * 32 ≤ 140737488355328 := by omega
                have b9 : 0 < 32 := by omega
                have z1n : Z1 ≠ c := by omega
                have z1m : c ≠ Z1 := by omega
                have z1l : Z1 < c := by omega
                have Hq := hid hq
                have Hql := hid hql
                have HX := hid hX
                clear hX hY hZ1 hZ2 hx2 hy4 hnj hq hql hrl5 hpr hr0 hr5 h50 hCl hNl hSl hlen hl
                go_wp2_with (go_at_call 55; (with_reducible refine hle.mono ?_); rintro e w3 ⟨rfl, rfl⟩)
                go_loopw [22] (fun i wr => ∃ q : Nat, q ≤ j ∧ i = .int .i64 q ∧ (∀ t, t < q → noF bs t ≠ nj) ∧ SatL wr (PutsR (.slice oa j oc) qs :: L)) (fun i _ => j - (intOf i).toNat)
                case atStart => exact ⟨0, by omega, rfl, fun t ht => by omega, hs⟩
                case round =>
                  clear hs hle
                  obtain ⟨q, hq, rfl, hno, hs4⟩ := hrel
                  have Hno := hid hno
                  clear hno
                  by_cases hqj : q < j
                  · obtain ⟨b', off', rfl, _⟩ := (PutsR.rdpts hs4).1.at (by rw [Hql.out]; omega)
                    have g1 := Hcell.out _ _ _ q hs4 hqj
                    obtain ⟨qb, hqb⟩ : ∃ n, noF bs q = n := ⟨_, rfl⟩
                    rw [hqb] at g1
                    have Hqb := hid hqb
                    clear hqb
                    by_cases heq : qb = nj
                    · subst heq
                      have He := hid (show recov bs = (0, [], 2) by rw [Hrv.out, if_neg (fun k => Hrg.out.1 k q j hqj hlt (by rw [Hqb.out, Hnj.out]))])
                      go_wp2
                      go_ret3
                      exact Ret.mk (recov_no He hs4.tail)
                    · have hne : ((qb : Int) == (nj : Int)) = false := beq_eq_false_iff_ne.2 (by omega)
                      have Heq := hid heq
                      clear heq
                      go_wp2
                      go_roundw
                      case rel =>
                        refine ⟨q + 1, by omega, by go_num, fun t ht => ?_, hs4⟩
                        by_cases htq : t = q
                        · rw [htq, Hqb.out]; exact Heq.out
                        · exact Hno.out t (by omega)
                      case measure => simp [intOf]; omega
                  · obtain rfl : q = j := by omega
                    have grd := hrd _ (SatL.tail hs4)
                    have t1 : True := trivial
                    go_wp2_with (first
                      | (have _t := t1; at_builtin; refine wpList_appnew (nb := wr.heap.size) rfl rfl (.tmp 132) (.tmp 140) rfl rfl rfl hs4 grd hlj ?_; intro v7 w7 h7; clear t1; obtain ⟨ca, cc, rfl, q7, q8⟩ := Sl.valn h7 (m := 512) (by rw [bvs_len, Hrl.out]); have h9 := sat_PutsR.1 (SatL.pull h7 1); rw [Hql.out] at h9; have t2 : True := trivial)
                      | (have _t := t2; at_builtin; refine wpList_pushK_sl rfl rfl (.tmp 129) (.tmp 143) rfl elem_put b9 rfl h9 rfl rfl (by simp [Value.oneCell']) b2 ?_; intro v9 w9 h10; clear t2))
                    go_roundw
                    case rel =>
                      have h11 : SatL w9 (SlK 29 2 v9 (qs.length + 1) (pcells qs ++ [.int .i64 nj, .slice ca 512 cc]) :: big (fun p : Pt => SlB 5 p.v p.d) qs :: SlB 5 (.slice ca 512 cc) rj :: L) := by rw [Hql.out]; exact h10.bring [0, 1, 2]
                      have h12 := PutsL.snoc h11
                      refine ⟨q + 1, qs ++ [(⟨(nj : Int), .slice ca 512 cc, rj⟩ : Pt)], by omega, by rw [HX.out], by rw [Hsn.out, pds_snoc, Hq.out], fun i k hi hk => ?_, h12⟩
                      by_cases hkq : k = q
                      · rw [hkq, Hnj.out]; exact Hno.out i (by omega)
                      · exact Hnd.out i k hi (by omega)
                    case measure => have := HX.out; simp [intOf]; omega
              · obtain rfl : j = countOf bs := by omega
                have Her := hid (show recov bs = (seqOf bs, gotOf bs, 0) by rw [Hrv.out, if_pos (Hrg.out.2 Hnd.out)])
                have Hq := hid (show pds qs = gotOf bs from hq)
                clear hq hql hlt hj hr5 hr0
                go_wp2
                go_ret3
                refine Ret.mk ⟨u18, ?_, ?_⟩
                · rw [Her.out]; rfl
                · rw [Her.out]
                  exact sat_PutsL.2 ⟨qs, Hq.out, hs⟩
          · have hb2 : (!decide (tailGood bs)) = true := by rw [decide_eq_false hgT]; rfl
            rw [hb2]
            have he := hid (show recov bs = (0, [], 2) by rw [hrv, if_neg (fun k => hgT k.2.1)])
            clear hrv hgT hH hT
            go_wp2
            go_ret3
            exact Ret.mk (recov_no he hs9)
      · have hb : (!decide (headGood bs)) = true := by rw [decide_eq_false hg]; rfl
        rw [hb]
        have he := hid (show recov bs = (0, [], 2) by rw [hrv, if_neg (fun k => hg k.1)])
        clear hrv hg hH
        go_wp2
        go_ret3
        exact Ret.mk (recov_no he hs)
  · have he := hid (show recov bs = (0, [], 14) by unfold recov; rw [if_pos hlen])
    have hne : ((bs.length : Int) != 33792) = true := by simp; omega
    go_enter Try.func18, Try.ntmps18
    go_wp2
    go_ret3
    exact Ret.mk (recov_no he h)
end
end Go.Proofs.Ytjjnadlklfegcaa
