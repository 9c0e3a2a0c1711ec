/- WalRecovers: for every input it returns true and writes nothing that was there. No condition. -/
import Derived.Test.YtjjnadlklfegcaaLawRecs
import Derived.Test.YtjjnadlklfegcaaRefRecov
import Derived.Test.YtjjnadlklfegcaaCopyPuts
namespace Go.Proofs.Ytjjnadlklfegcaa
set_option linter.unusedVariables false
set_option linter.unusedSimpArgs false
open Go.RowKit

section
variable {w : World} {L : List HP}
theorem emptyPuts (h : SatL w L) : SatL (w.alloc (.cells #[] 29)) (SlK 29 2 (.slice (some ⟨w.heap.size, 0, none⟩) 0 0) 0 [] :: L) :=
  sat_SlK.2 (.inr ⟨w.heap.size, 0, 0, #[], ⟨rfl, Nat.le_refl _, by decide, rfl, by simp, rfl⟩, h.alloc _⟩)
theorem emptyPutsN {n : Nat} (hn : n = w.heap.size) (h : SatL w L) : SatL (w.alloc (.cells #[] 29)) (SlK 29 2 (.slice (some ⟨n, 0, none⟩) 0 0) 0 [] :: L) := by
  subst hn; exact emptyPuts h
end

theorem bvs_set8 {l : List UInt8} {j x : Nat} (hx : x < 256) : (bvs l).set j (.int .u8 (x : Int)) = bvs (l.set j (byteOf x)) := by
  have : Value.int .u8 (x : Int) = bv (byteOf x) := by rw [bv_byteOf, Nat.mod_eq_of_lt hx]
  rw [this]; exact List.map_set.symm
theorem tmod_in {a b : Int} (hb : 0 < b) : -b < a.tmod b ∧ a.tmod b < b := by
  have h := Int.natAbs_tmod a b
  have h2 : a.natAbs % b.natAbs < b.natAbs := Nat.mod_lt _ (by omega)
  omega

set_option maxRecDepth 100000 in
set_option maxHeartbeats 16000000 in
theorem recovers_walk (seq : Nat) (hs : seq < 18446744073709551616) (a0 : Option Addr) (l0 c0 : Nat) (A S : Nat → Int) (B : Nat → Nat) (a2 : Option Addr) (l2 c2 : Nat) (AT : Nat → Int) (a3 : Option Addr) (l3 c3 : Nat) (BY : Nat → Nat) (cut : Int) (w : World)
    (hC : BlkRow a0 l0 A S B w) (hB : ∀ i, B i < 256) (hAT : IsRow w 1 a2 l2 (fun i => [.int .i64 (AT i)])) (hAr : ∀ i, IntKind.i64.min ≤ AT i ∧ AT i ≤ IntKind.i64.max) (hBY : IsRow w 1 a3 l3 (fun i => [.int .u8 (BY i : Int)])) (hBr : ∀ i, BY i < 256) (hcu : IntKind.i64.min ≤ cut ∧ cut ≤ IntKind.i64.max) :
    Calls Try.prog 4 #[.int .u64 seq, .slice a0 l0 c0, .slice a2 l2 c2, .slice a3 l3 c3, .int .i64 cut] w (Ret fun v w' => v = .bool true ∧ SatL w' [old w]) := by
  have hk := known_ok (sat_old w)
  have hg : Gives [old w] (BlkRow a0 l0 A S B) := gives_row hC
  go_enter Try.func4, Try.ntmps4
  by_cases hl : l0 ≤ 100
  · have t1 : True := trivial
    have hpl : (putL l0 A S B).length ≤ 1000000 := by rw [putL_len]; omega
    have hol : (recOut seq (putL l0 A S B)).length ≤ 1000 := by
      unfold recOut; split
      · simp [recRows, inRow_len, putL_len]; omega
      · simp
    have hpu := fun (w' : World) (L : List HP) (h : SatL w' L) (g : Gives L (BlkRow a0 l0 A S B)) => puts_ok (c := c0) hB (by omega) h g
    obtain ⟨tb, td, hL⟩ : ∃ tb td, recLast seq (putL l0 A S B) = (tb, td) := ⟨_, _, rfl⟩
    obtain ⟨er, hE⟩ : ∃ er, recErr (putL l0 A S B) = er := ⟨_, rfl⟩
    obtain ⟨O, hO⟩ : ∃ O, recOut seq (putL l0 A S B) = O := ⟨_, rfl⟩
    rw [hO] at hol
    generalize putL l0 A S B = P at *
    have HL := hid hL
    have HE := hid hE
    have HO := hid hO
    clear hL hE hO hC hB
    go_upto_region 6 with (first
      | (go_at_call 11; (with_reducible refine hk.mono ?_); rintro e w1 ⟨v, rfl, rfl, h1⟩; have hp1 := hpu _ _ h1 hg)
      | (have _t := t1; go_at_call 12; (with_reducible refine hp1.mono ?_); rintro e w2 ⟨m0, rfl, h2⟩; clear t1 hp1; obtain ⟨ps, hps, h3⟩ := sat_PutsL.1 h2; have hr := refrecord_of hs hps HL.out HE.out HO.out hpl h3; have Hps := hid hps; clear hps h2; have t2 : True := trivial)
      | (have _t := t2; go_at_call 14; (with_reducible refine hr.mono ?_); rintro e w3 ⟨v, rfl, ov, ea, en, ec, rfl, h4⟩; clear t2 hr; obtain ⟨qs, hqs, h4'⟩ := sat_PutsL.1 h4; obtain ⟨oa, oc, rfl, q3, q4⟩ := (PutsR.rdpts h4').1.valn; have h5 := SatL.alloc h4' (.cells #[.int .i64 tb, .slice ea en ec] 29)))
    have hql : qs.length ≤ 1000 := by rw [← pds_len, show pds qs = O from hqs]; exact hol
    have Hqs := hid (show pds qs = O from hqs)
    clear hqs hk hpu h3 h4 h4' h1 hpl HL HE HO Hps
    have k5 := SatL.bring (sat_drew.2 h5) [1, 0, 2]
    generalize w3.heap.size = eb at *
    generalize w3.alloc (.cells #[.int .i64 tb, .slice ea en ec] 29) = wA at *
    have c0 : wA.drew.cell? ⟨eb, 0, none⟩ = some (.int .i64 tb) := SatL.cell (SatL.pull k5 1 : SatL _ (pt _ _ :: _)) (i := 0) rfl
    have c1 : wA.drew.cell? ⟨eb, 1, none⟩ = some (.slice ea en ec) := SatL.cell (SatL.pull k5 1 : SatL _ (pt _ _ :: _)) (i := 1) rfl
    have hq6 : qs.length ≤ 1000000 := by omega
    have f0 := SatL.bring h5 [1, 2, 0]
    have f1 := sat_drew.2 (emptyPuts f0)
    have f2 := SatL.bring (sat_drew.2 ((emptyPuts f0).allocN (n := wA.heap.size + 1) (.cells #[.int .i64 tb, .slice ea en ec] 29) (by simp))) [1, 2, 0, 3]
    have f3 := SatL.bring (sat_drew.2 (emptyPutsN (n := wA.heap.size + 1) (by simp) (f0.allocN (n := wA.heap.size) (.cells #[.int .i64 tb, .slice ea en ec] 29) rfl))) [0, 2, 1, 3]
    have hlg := fun (w' : World) (v : Value) (L : List HP) (h : SatL w' (PutsR v (qs ++ [⟨tb, .slice ea en ec, td⟩]) :: L)) => log_ok (by simp; omega) h
    rw [pds_snoc, Hqs.out] at hlg
    generalize hlb : logB (O ++ [(tb, td)]) = lb at *
    have Hlb := hid hlb
    have cT := fun (w' : World) (L : List HP) (h : SatL w' (pt eb (.cells #[.int .i64 tb, .slice ea en ec] 29) :: L)) => (⟨SatL.cell h (i := 0) rfl, SatL.cell h (i := 1) rfl⟩ : w'.cell? ⟨eb, 0, none⟩ = some (.int .i64 tb) ∧ w'.cell? ⟨eb, 1, none⟩ = some (.slice ea en ec))
    have x1 := cT _ _ (SatL.pull f1 3)
    have x2 := cT _ _ (SatL.pull f2 4)
    have x3 := cT _ _ (SatL.pull f3 4)
    have x4 := cT _ _ (SatL.pull (sat_drew.2 (f0.alloc (.cells #[.int .i64 tb, .slice ea en ec] 29))) 3)
    have CT := hid cT
    clear hlb h5 k5 f0 cT
    have b1 : True := trivial
    go_cut [14] from 37 to 43 (fun v wr => SatL wr [SlB 5 v lb, old w])
    case first =>
      go_region_held3 (fun w' => w'.cell? ⟨eb, 0, none⟩ = some (.int .i64 tb) ∧ w'.cell? ⟨eb, 1, none⟩ = some (.slice ea en ec)) (first | exact ⟨c0, c1⟩ | exact ⟨m0, m1⟩ | (with_reducible exact x1) | (with_reducible exact x2) | (with_reducible exact x3) | (with_reducible exact x4) | (with_reducible exact x5) | go_keep) (first
        | (have _t := b1; refine step_copyPuts rfl (.tmp 37) (.tmp 38) rfl rfl rfl f1 hq6 ?_; intro v7 w7 g1; clear b1; have m0 : w7.cell? ⟨eb, 0, none⟩ = some (.int .i64 tb) := SatL.cell (SatL.pull g1 2 : SatL _ (pt _ _ :: _)) (i := 0) rfl; have m1 : w7.cell? ⟨eb, 1, none⟩ = some (.slice ea en ec) := SatL.cell (SatL.pull g1 2 : SatL _ (pt _ _ :: _)) (i := 1) rfl; have x5 := CT.out _ _ (SatL.pull (g1.alloc (.cells #[.int .i64 tb, .slice ea en ec] 29)) 3); have b2 : True := trivial)
        | (have _t := b1; refine step_copyPuts rfl (.tmp 37) (.tmp 38) rfl rfl rfl f2 hq6 ?_; intro v7 w7 g1; clear b1; have m0 : w7.cell? ⟨eb, 0, none⟩ = some (.int .i64 tb) := SatL.cell (SatL.pull g1 3 : SatL _ (pt _ _ :: _)) (i := 0) rfl; have m1 : w7.cell? ⟨eb, 1, none⟩ = some (.slice ea en ec) := SatL.cell (SatL.pull g1 3 : SatL _ (pt _ _ :: _)) (i := 1) rfl; have b3 : True := trivial)
        | (have _t := b1; refine step_copyPuts rfl (.tmp 37) (.tmp 38) rfl rfl rfl f3 hq6 ?_; intro v7 w7 g1; clear b1; have m0 : w7.cell? ⟨eb, 0, none⟩ = some (.int .i64 tb) := SatL.cell (SatL.pull g1 3 : SatL _ (pt _ _ :: _)) (i := 0) rfl; have m1 : w7.cell? ⟨eb, 1, none⟩ = some (.slice ea en ec) := SatL.cell (SatL.pull g1 3 : SatL _ (pt _ _ :: _)) (i := 1) rfl; have b3 : True := trivial)
        | (have _t := b2; refine step_onePut_new rfl rfl (.tmp 39) (.tmp 41) rfl rfl rfl rfl g1 hq6 ?_; intro v9 w9 g2; clear b2; have m0 : w9.cell? ⟨eb, 0, none⟩ = some (.int .i64 tb) := SatL.cell (SatL.pull g2 1 : SatL _ (pt _ _ :: _)) (i := 0) rfl; have m1 : w9.cell? ⟨eb, 1, none⟩ = some (.slice ea en ec) := SatL.cell (SatL.pull g2 1 : SatL _ (pt _ _ :: _)) (i := 1) rfl; have hl9 := hlg _ _ _ g2)
        | (have _t := b3; refine step_onePut_cl rfl (.tmp 39) (.tmp 41) rfl rfl rfl rfl g1 hq6 ?_; intro v9 w9 g2; clear b3; have m0 : w9.cell? ⟨eb, 0, none⟩ = some (.int .i64 tb) := SatL.cell (SatL.pull g2 1 : SatL _ (pt _ _ :: _)) (i := 0) rfl; have m1 : w9.cell? ⟨eb, 1, none⟩ = some (.slice ea en ec) := SatL.cell (SatL.pull g2 1 : SatL _ (pt _ _ :: _)) (i := 1) rfl; have hl9 := hlg _ _ _ g2)
        | (go_at_call 16; (with_reducible refine hl9.mono ?_); rintro e w10 ⟨v, rfl, g3⟩; have m0 : w10.cell? ⟨eb, 0, none⟩ = some (.int .i64 tb) := SatL.cell (SatL.pull g3 2 : SatL _ (pt _ _ :: _)) (i := 0) rfl; have m1 : w10.cell? ⟨eb, 1, none⟩ = some (.slice ea en ec) := SatL.cell (SatL.pull g3 2 : SatL _ (pt _ _ :: _)) (i := 1) rfl)
        | fail "no")
      all_goals
        go_wp2_with fail
        go_meet
        exact (SatL.bring g3 [1, 2, 3, 0]).tail.tail.tail
    case rest =>
      clear x1 x2 x3 x4 c0 c1 f1 f2 f3 hlg q3 q4 b1
      have hll : lb.length = 33792 := by rw [← Hlb.out]; exact logB_len _
      obtain ⟨ba, bc, rfl, p1, p2⟩ := Sl.valn hcut (m := 33792) (by rw [bvs_len]; exact hll)
      obtain ⟨bb, bo, rfl⟩ := Sl.addr hcut (by omega)
      clear Hlb Hqs CT hq6 hql hol
      go_wp2
      go_loopw [15] (fun i wr => ∃ (k : Nat) (bs : List UInt8), i = .int .i64 k ∧ k ≤ 20 ∧ bs.length = 33792 ∧ SatL wr [SlB 5 (.slice (some ⟨bb, bo, none⟩) 33792 bc) bs, old w]) (fun i _ => 20 - (intOf i).toNat)
      case atStart => exact ⟨0, lb, rfl, by omega, hll, hcut⟩
      case round =>
        clear hcut hll
        obtain ⟨k, bs, rfl, hk20, hbl, hs1⟩ := hrel
        by_cases hgo : (k : Int) < l2 ∧ (k : Int) < l3 ∧ (k : Int) < 20
        · obtain ⟨hgo1, hgo2, hgo3⟩ := hgo
          obtain ⟨b2, o2, rfl, hc2⟩ := hAT.2 (by omega)
          obtain ⟨b3, o3, rfl, hc3⟩ := hBY.2 (by omega)
          have d2 := SatL.oldCell (SatL.pull hs1 1 : SatL _ (old w :: _)) ((hc2 k (by omega)).2 0 _ rfl)
          have d3 := SatL.oldCell (SatL.pull hs1 1 : SatL _ (old w :: _)) ((hc3 k (by omega)).2 0 _ rfl)
          rw [Nat.mul_one, Nat.add_zero] at d2 d3
          have hr := tmod_in (a := AT k) (b := 33792) (by omega)
          have hy := hBr k
          generalize AT k = ak at *
          generalize BY k = yk at *
          generalize hrr : ak.tmod 33792 = r at *
          have hxx : ∃ x : Nat, x < 33792 ∧ ((r < 0 ∧ r + 33792 = x) ∨ (¬ r < 0 ∧ r = x)) := by
            by_cases h0 : r < 0
            · exact ⟨(r + 33792).toNat, by omega, .inl ⟨h0, by omega⟩⟩
            · exact ⟨r.toNat, by omega, .inr ⟨h0, by omega⟩⟩
          obtain ⟨x, hx, hxr⟩ := hxx
          have ct := SlB.cell hs1 (i := x) (by omega)
          have ft := Sl.free hs1 (bo + x)
          have hset := fun (v : Value) => Sl.set hs1 (i := x) (by rw [bvs_len]; omega) v
          have hzl : ((bs.getD x 0).toNat + yk) % 256 < 256 := by omega
          have hst := bvs_set8 (l := bs) (j := x) hzl
          have hy0 : (bs.getD x 0).toNat < 256 := (bs.getD x 0).toNat_lt
          have e2 : IntKind.u8.wrap (((bs.getD x 0).toNat : Int) + (yk : Int)) = ((((bs.getD x 0).toNat + yk) % 256 : Nat) : Int) := by rw [IntKind.wrap_u8']; omega
          generalize (bs.getD x 0).toNat = y0 at *
          generalize (y0 + yk) % 256 = z at *
          have hnl := hid (show (bs.set x (byteOf z)).length = 33792 by rw [List.length_set]; exact hbl)
          have hx2 : (x : Int) < 33792 := by omega
          have Hset := hid hset
          have Hst := hid hst
          clear hset hst hc2 hc3 hAT hBY hAr hBr
          rcases hxr with ⟨hr0, hxr⟩ | ⟨hr0, hxr⟩
          · have hxw : IntKind.i64.wrap (r + 33792) = (x : Int) := by rw [← hxr]; exact IntWalk.i64_in _ (by omega)
            clear hxr
            go_wp2
            go_region
            go_wp2
            have h8 := Hset.out (.int .u8 z)
            rw [Hst.out] at h8
            go_roundw
            case rel => exact ⟨k + 1, _, by go_num, by omega, hnl.out, sat_drew.2 h8⟩
            case measure => simp [intOf]; omega
          · subst hxr
            go_wp2
            go_region
            go_wp2
            have h8 := Hset.out (.int .u8 z)
            rw [Hst.out] at h8
            go_roundw
            case rel => exact ⟨k + 1, _, by go_num, by omega, hnl.out, sat_drew.2 h8⟩
            case measure => simp [intOf]; omega
        · have hgo3 : ¬ (k : Int) < l2 ∨ ((k : Int) < l2 ∧ ¬ (k : Int) < l3) ∨ ((k : Int) < l2 ∧ (k : Int) < l3 ∧ ¬ (k : Int) < 20) := by omega
          clear hgo hAT hBY hAr hBr
          have hcx : ∃ n : Nat, n ≤ 33792 ∧ ((0 < cut ∧ max 0 (33792 - cut) = (n : Int)) ∨ (¬ 0 < cut ∧ n = 33792)) := by
            by_cases h0 : 0 < cut
            · exact ⟨(max 0 (33792 - cut)).toNat, by omega, .inl ⟨h0, by omega⟩⟩
            · exact ⟨33792, by omega, .inr ⟨h0, rfl⟩⟩
          obtain ⟨n, hn, hcx⟩ := hcx
          have hc1 : cut ≤ 9223372036854775807 := hcu.2
          have wx : IntKind.i64.wrap (33792 - cut) = 33792 - cut ∨ cut ≤ 0 := by
            by_cases h0 : 0 < cut
            · exact .inl (IntWalk.i64_in _ (by omega))
            · exact .inr (by omega)
          have hnc : n ≤ bc := by omega
          have hR := fun (w' : World) (v : Value) (L : List HP) (h : SatL w' (SlB 5 v (bs.take n) :: L)) => recover_ok (by rw [List.length_take]; omega) h (fun w' h' => SlB.rd h')
          have hR2 := fun (w' : World) (v : Value) (b : Nat) (off c : Nat) (X : HP) (L : List HP) (h : SatL w' (X :: SlB 5 v (bs.take n) :: SlB 5 (.slice (some ⟨b, off, none⟩) 33792 c) bs :: L)) => refrecover_ok (v := .slice (some ⟨b, off, none⟩) n c) (by rw [List.length_take]; omega) h (fun w' h' => RdB.pre (SlB.rd (SatL.pull h' 2 : SatL w' (SlB _ _ _ :: _))) (by omega : n ≤ bs.length))
          have grd := fun (w' : World) (h : SatL w' [SlB 5 (.slice (some ⟨bb, bo, none⟩) 33792 bc) bs, old w]) => RdB.pre (SlB.rd h) (by omega : n ≤ bs.length)
          have gcv := fun (w' : World) (b off c : Nat) (L : List HP) (h : SatL w' (SlB 5 (.slice (some ⟨b, off, none⟩) 33792 c) bs :: L)) => RdB.conv (RdB.pre (SlB.rd h) (by omega : n ≤ bs.length))
          have hlj : (bs.take n).length ≤ 1000000000 := by rw [List.length_take]; omega
          have Hn := hid (show (bs.take n).length = n by rw [List.length_take]; omega)
          unfold RecovPost at hR hR2
          generalize hbt : bs.take n = bt at *
          generalize recov bt = rr at *
          obtain ⟨rs, rl, re⟩ := rr
          clear hbt
          have HR := hid hR
          have HR2 := hid hR2
          have Hgrd := hid grd
          have Hgcv := hid gcv
          clear hR hR2 grd gcv
          rcases hgo3 with hgo | ⟨hgo1, hgo⟩ | ⟨hgo1, hgo2, hgo⟩
          all_goals
            go_upto_if 86 with fail
            go_cut [14] from 85 to 93 (fun v wr2 => v = .slice (some ⟨bb, bo, none⟩) n bc ∧ wr2 = wr)
            case first =>
              clear HR HR2 Hgrd Hgcv hlj Hn
              rcases hcx with ⟨h0, h1⟩ | ⟨h0, rfl⟩
              · replace wx := wx.resolve_right (by omega)
                have hn0 : (0 : Int) ≤ n := by omega
                go_wp2_with fail
                all_goals
                  go_meet
                  refine ⟨?_, rfl⟩
                  first
                    | rfl
                    | (congr 1; omega)
              · go_wp2_with fail
                go_meet
                exact ⟨rfl, rfl⟩
            case rest =>
              obtain ⟨rfl, rfl⟩ := hcut
              clear hcx wx
              have grd0 := Hgrd.out _ hs1
              have t1 : True := trivial
              go_wp2_with (first
                | (have _t := t1; at_builtin; refine wpList_appnew (nb := wc.heap.size) rfl rfl (.tmp 94) (.tmp 95) rfl rfl rfl hs1 grd0 hlj ?_; intro v7 w7 h7; clear t1; obtain ⟨ma, mc, rfl, q7, q8⟩ := Sl.valn h7 (m := n) (by rw [bvs_len, Hn.out]); have hR := HR.out _ _ _ h7)
                | (go_at_call 17; (with_reducible refine hR.mono ?_); rintro e w8 ⟨v, rfl, ov1, rfl, h8⟩; have hR2 := HR2.out _ _ _ _ _ _ _ h8)
                | (go_at_call 18; (with_reducible refine hR2.mono ?_); rintro e w9 ⟨v, rfl, ov2, rfl, h9⟩; have hsm := sameL_ok h9.swap)
                | (go_at_call 15; (with_reducible refine hsm.mono ?_); rintro e w10 ⟨v, rfl, rfl, h10⟩; have v1 := RdB.conv (SlB.rd (SatL.pull h10 2 : SatL w10 (SlB _ _ _ :: _))); have v2 := Hgcv.out _ _ _ _ _ (SatL.pull h10 3)))
              go_ret
              exact ⟨_, rfl, rfl, h10.tail.tail.tail.tail⟩
  · have hb : decide ((100 : Int) < (l0 : Int)) = true := by simp; omega
    go_wp2_with (go_at_call 11; (with_reducible refine hk.mono ?_); rintro e w1 ⟨v, rfl, rfl, h1⟩)
    go_ret
    exact ⟨_, rfl, rfl, h1⟩
end Go.Proofs.Ytjjnadlklfegcaa
