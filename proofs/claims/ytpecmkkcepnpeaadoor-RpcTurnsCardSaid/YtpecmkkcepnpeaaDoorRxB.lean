/- the document's Reader: Fixed, Bytes. Condition: the reader has bytes at all where it bears no error. -/
import Derived.Test.YtpecmkkcepnpeaaDoorRxA
namespace Go.Proofs.YtpecmkkcepnpeaaDoor
set_option linter.unusedVariables false
set_option linter.unusedSimpArgs false
open Go.RowKit
section
variable {w : World} {L : List HP} {rb : Nat} {v : Value} {r : Rdr}
theorem pad4_up (n : Nat) : (n + 3) / 4 * 4 = n + pad4 n := by unfold pad4; omega
set_option maxRecDepth 100000 in
set_option maxHeartbeats 2000000 in
theorem reffixed_ok {n : Nat} (hn : n ≤ 4294967295) (hb : r.err = 0 → 0 < r.b.length) (h : SatL w (RrR rb v r :: L)) (g : Gives L (RdV v r.b)) :
    Calls Tryd.prog 79 #[.pointer (some ⟨rb, 0, none⟩), .int .i64 n] w (Ret fun q w' => SatL w' (SlB 5 q (r.fixed n).1 :: RrR rb v (r.fixed n).2 :: L)) := by
  have kl := refleft_ok h g
  obtain ⟨ok, h0⟩ := sat_RrR.1 h
  have hp3 := pad4_le n
  have hup := pad4_up n
  have hfx : Rdr.fixed r n = Rdr.fixed r n := rfl
  conv at hfx => rhs; unfold Rdr.fixed
  obtain ⟨B, p, E⟩ := r
  have hop : p ≤ B.length ∧ B.length ≤ 100000000 := ok
  dsimp only at *
  have c2 := SatL.cell (h0 : SatL w (cl _ _ _ :: _)) (i := 2) (v := .int .i64 E) rfl
  generalize hpd : pad4 n = d at *
  have Hpd := hid hpd
  have hw3 : IntKind.i64.wrap ((n : Int) + 3) = (n : Int) + 3 := IntWalk.i64_in _ (by omega)
  obtain ⟨u, hu⟩ : ∃ u, u = n + d := ⟨_, rfl⟩
  have hupz : ((n : Int) + 3) / 4 * 4 = (u : Int) := by rw [hu, ← hup]; omega
  have hupt : Int.tdiv ((n : Int) + 3) 4 = ((n : Int) + 3) / 4 := by rw [Int.tdiv_eq_ediv_of_nonneg (by omega)]
  have Hu := hid hu
  clear hpd hup hu
  by_cases hE : E = 0
  · subst hE
    rw [if_pos rfl] at hfx
    have Hb := hid (hb rfl)
    clear hb
    by_cases hfit : p + n + d ≤ B.length
    · rw [if_pos hfit] at hfx
      obtain ⟨s, hs⟩ : ∃ s, s = p + n := ⟨_, rfl⟩
      obtain ⟨vs, hsl, hrs⟩ := (g w h0.tail).mid (i := p) (j := s) (by omega) (by omega)
      have t1 : ¬ ((B.length : Int) - p < n) := by omega
      have t2 : ¬ ((B.length : Int) - p < u) := by have := Hu.out; omega
      have Hrs := hid hrs
      have Gg := hid g
      clear hrs g
      go_enter Tryd.func79, Tryd.ntmps79
      go_upto_region 9 with (first
        | (go_at_call 53; (with_reducible refine kl.mono ?_); rintro e w1 ⟨vv, rfl, rfl, h1⟩; have kl := refleft_ok h1 Gg.out))
      obtain ⟨ok1, h1o⟩ := sat_RrR.1 h1
      dsimp only at h1o
      have c0 := SatL.cell (h1o : SatL _ (cl _ _ _ :: _)) (i := 0) (v := v) rfl
      have c1 := SatL.cell (h1o : SatL _ (cl _ _ _ :: _)) (i := 1) (v := .int .i64 (p : Int)) rfl
      have hpn : (p : Int) + n = (s : Int) := by omega
      have Hs := hid hs
      clear c2 kl hs
      go_quiet (fail)
      have H1 := hid (sat_drewM.2 h1o : SatL (w1.drewN nq) _)
      clear h1 h1o c0 c1 hsl h0 h
      generalize w1.drewN nq = w2 at *
      have hdl : ((B.take s).drop p) = (B.drop p).take n := by rw [List.drop_take, Hs.out]; congr 1; omega
      have hnl : ((B.drop p).take n).length = n := by rw [List.length_take, List.length_drop]; omega
      rw [hdl] at Hrs
      obtain ⟨sa, sc, hvs, _, _⟩ := (Hrs.out w2 (Gg.out w2 H1.out.tail)).valn
      rw [hnl] at hvs
      subst hvs
      have Hnl := hid hnl
      clear hdl hnl
      go_wp2_with fail
      obtain ⟨va, vc, hva, _, _⟩ := (Gg.out w2 H1.out.tail).valn
      go_loopw [6] (fun i wr => ∃ j k : Nat, j ≤ d ∧ k = n + j ∧ i = .int .i64 (k : Int) ∧ Hid (∀ m, m < j → ((B.drop (p + n)).take d).getD m 0 = 0) ∧ SatL wr (cl rb 114 #[v, .int .i64 (p : Int), .int .i64 0] :: L)) (fun i _ => u - (intOf i).toNat)
      case atStart => exact ⟨0, n, by omega, rfl, rfl, hid (fun m hm => absurd hm (Nat.not_lt_zero m)), H1.out⟩
      case round =>
        obtain ⟨j, k, hj, hk, rfl, hz0, hs1⟩ := hrel
        have c0 := SatL.cell (hs1 : SatL _ (cl _ _ _ :: _)) (i := 0) (v := v) rfl
        have c1 := SatL.cell (hs1 : SatL _ (cl _ _ _ :: _)) (i := 1) (v := .int .i64 (p : Int)) rfl
        subst hva
        have hun := Hu.out
        by_cases hlt : k < u
        · have hjd : j < d := by omega
          have hqb0 : p + k < B.length := by omega
          clear hun
          obtain ⟨_, _, _, b, off, rfl, hcell⟩ := ((Gg.out wr hs1.tail).b Hb.out).at Hb.out
          obtain ⟨q, hq⟩ : ∃ q, q = p + k := ⟨_, rfl⟩
          have hx := hcell q (by omega)
          have hpq : (p : Int) + k = (q : Int) := by omega
          have hwq : IntKind.i64.wrap (q : Int) = (q : Int) := IntWalk.i64_in _ (by omega)
          have hwk : IntKind.i64.wrap ((k : Int) + 1) = (k : Int) + 1 := IntWalk.i64_in _ (by omega)
          have hqB : (q : Int) < B.length := by omega
          have hqB2 : q < B.length := by omega
          have hzx : ((B.drop (p + n)).take d).getD j 0 = B.getD q 0 := by
            simp only [List.getD_eq_getElem?_getD, List.getElem?_take, List.getElem?_drop]
            rw [if_pos (by omega), hq, hk, Nat.add_assoc]
          have Hzx := hid hzx
          obtain ⟨x, hxx⟩ : ∃ x, x = (B.getD q 0).toNat := ⟨_, rfl⟩
          rw [← hxx] at hx
          have Hxx := hid hxx
          have Hk := hid hk
          have Hq := hid hq
          clear hxx hzx hcell H1 hk hq
          by_cases h0 : x = 0
          · have h02 : ((x : Int) == 0) = true := by simp [h0]
            have h03 : ((x : Int) != 0) = false := by simp [h0]
            have H0 := hid h0
            clear h0
            go_wp2_with fail
            have hlt0 : (k : Int) < u := by omega
            clear hlt0
            go_quiet (fail)
            have H2 := hid (sat_drewM.2 hs1 : SatL (wr.drewN nq) _)
            clear hx hs1 c0 c1
            generalize wr.drewN nq = w3 at *
            go_wp2_with fail
            go_roundw
            case rel =>
              refine ⟨j + 1, k + 1, hjd, by have := Hk.out; omega, by go_num, hid (fun m hm => ?_), H2.out⟩
              rcases Nat.lt_or_ge m j with h | h
              · exact hz0.out m h
              · obtain rfl : m = j := by omega
                rw [Hzx.out]
                exact UInt8.toNat_inj.1 (by rw [← Hxx.out, H0.out]; rfl)
            case measure => simp [intOf, hwk]; omega
          · have h02 : ((x : Int) == 0) = false := by simp; omega
            have h03 : ((x : Int) != 0) = true := by simp; omega
            have hno := hid (show ((B.drop (p + n)).take d).all (· == 0) = true → False from fun hall => h0 (by
              have := (all_zero.1 hall) j (by simp; omega)
              rw [Hxx.out, ← Hzx.out, this]; rfl))
            have Hfx := hid hfx
            clear hfx h0
            go_wp2_with fail
            go_quiet (fail)
            have H2 := hid (sat_drewM.2 hs1 : SatL (wr.drewN nq) _)
            clear hx hs1 c0 c1
            generalize wr.drewN nq = w3 at *
            have c2 := SatL.cell (H2.out : SatL _ (cl _ _ _ :: _)) (i := 2) (v := .int .i64 0) rfl
            have f2 := SatL.free (H2.out : SatL _ (cl _ _ _ :: _)) 2
            go_wp2_with fail
            go_ret
            exact Ret.mk (by rw [Hfx.out, if_neg hno.out]; exact Sl_nil (sat_RrR.2 ⟨ok, SatL.set H2.out (i := 2) _⟩))
        · have hku : k = u := by have := Hu.out; omega
          have hjd : j = d := by have := Hu.out; omega
          subst hku; subst hjd
          clear hun
          have hall : ((B.drop (p + n)).take j).all (· == 0) = true := all_zero.2 fun m hm => hz0.out m (by have : m < (List.take j (List.drop (p + n) B)).length := hm; simp at this; omega)
          rw [if_pos hall] at hfx
          have Hfx := hid hfx
          have f1 := SatL.free (hs1 : SatL _ (cl _ _ _ :: _)) 1
          obtain ⟨e, he⟩ : ∃ e, e = p + k := ⟨_, rfl⟩
          have hpe : (p : Int) + k = (e : Int) := by omega
          have hwe : IntKind.i64.wrap (e : Int) = (e : Int) := IntWalk.i64_in _ (by omega)
          have h2 := SatL.set hs1 (i := 1) (.int .i64 (e : Int))
          have H2 := hid h2
          have hrv := Hrs.out _ (Gg.out _ h2.tail)
          have hnb : n ≤ 1000000000 := by omega
          have Hrv := hid hrv
          have He := hid he
          have Hk := hid hk
          clear hfx hall hz0 H1 h2 hrv he hk hs1
          go_wp2_with (first
            | (at_builtin; refine wpList_newcopy (nb := wr.heap.size) (by simp) rfl (.tmp 85) (.tmp 86) rfl rfl rfl H2.out Hnl.out Hrv.out hnb ?_; intro a4 c4 w4 _ h9))
          go_ret
          refine Ret.mk ?_
          rw [Hfx.out]
          have hee : p + n + j = e := by have := He.out; have := Hk.out; omega
          rw [hee]
          exact SatL.swap (sat_RrR.2 ⟨⟨by show e ≤ B.length; omega, hop.2⟩, h9.swap⟩)
    · rw [if_neg hfit] at hfx
      have Hfx := hid hfx
      have Gg := hid g
      by_cases hn1 : (B.length : Int) - p < n
      · clear hfx g hfit
        go_enter Tryd.func79, Tryd.ntmps79
        go_wp2_with (first
          | (go_at_call 53; (with_reducible refine kl.mono ?_); rintro e w1 ⟨vv, rfl, rfl, h1⟩; obtain ⟨ok1, h1o⟩ := sat_RrR.1 h1; have d2 := SatL.cell (h1o : SatL _ (cl _ _ _ :: _)) (i := 2) (v := .int .i64 0) rfl; have f2 := SatL.free (h1o : SatL _ (cl _ _ _ :: _)) 2))
        go_ret
        exact Ret.mk (by rw [Hfx.out]; exact Sl_nil (sat_RrR.2 ⟨ok, SatL.set h1o (i := 2) _⟩))
      · have hn2 : (B.length : Int) - p < u := by have := Hu.out; omega
        clear hfx g hfit
        go_enter Tryd.func79, Tryd.ntmps79
        go_wp2_with (first
          | (go_at_call 53; (with_reducible refine kl.mono ?_); rintro e w1 ⟨vv, rfl, rfl, h1⟩; obtain ⟨ok1, h1o⟩ := sat_RrR.1 h1; have d2 := SatL.cell (h1o : SatL _ (cl _ _ _ :: _)) (i := 2) (v := .int .i64 0) rfl; have f2 := SatL.free (h1o : SatL _ (cl _ _ _ :: _)) 2; have kl := refleft_ok h1 Gg.out))
        go_ret
        exact Ret.mk (by rw [Hfx.out]; exact Sl_nil (sat_RrR.2 ⟨ok, SatL.set h1o (i := 2) _⟩))
  · have hq : Rdr.fixed ⟨B, p, E⟩ n = ([], ⟨B, p, E⟩) := if_neg hE
    have h2 : (E == 0) = false := by simpa using hE
    rw [hq]
    clear hq hfx hE h0 g
    go_enter Tryd.func79, Tryd.ntmps79
    go_wp2
    go_ret
    exact Ret.mk (Sl_nil h)
theorem num_p {r : Rdr} {n : Nat} (h : (r.num n).2.err ≠ 0) : (r.num n).2.p = r.p := by
  unfold Rdr.num at h ⊢
  split at h
  · rename_i h0
    rw [if_pos h0]
    split at h
    · exact absurd h0 h
    · rename_i h1
      rw [if_neg h1]
  · rename_i h0
    rw [if_neg h0]
theorem fixed_no {r : Rdr} {n : Nat} (h : (r.fixed n).2.err ≠ 0) : (r.fixed n).1 = [] := by
  unfold Rdr.fixed at h ⊢
  split at h
  · rename_i h0
    rw [if_pos h0]
    split at h
    · rename_i h1
      rw [if_pos h1]
      split at h
      · exact absurd h0 h
      · rename_i h2
        rw [if_neg h2]
    · rename_i h1
      rw [if_neg h1]
  · rename_i h0
    rw [if_neg h0]
set_option maxRecDepth 100000 in
set_option maxHeartbeats 2000000 in
theorem refbytes_ok {most : Int} (hm : 0 ≤ most ∧ most ≤ 1000000) (h : SatL w (RrR rb v r :: L)) (g : Gives L (RdV v r.b)) :
    Calls Tryd.prog 52 #[.pointer (some ⟨rb, 0, none⟩), .int .i64 most] w (Ret fun q w' => SatL w' (SlB 5 q (r.bytes most).1 :: RrR rb v (r.bytes most).2 :: L)) := by
  have ku := refu32_ok h g
  have hlt := r.num_lt 4
  have hne := num_err (r := r) (n := 4) (by omega)
  have hnp := num_p (r := r) (n := 4)
  have hnb := Rdr.num_b r 4
  obtain ⟨ok, h0⟩ := sat_RrR.1 h
  have c1 := SatL.cell (h0 : SatL w (cl _ _ _ :: _)) (i := 1) (v := .int .i64 (r.p : Int)) rfl
  have hby : r.bytes most = bytesEnd (((r.num 4).2.cut (r.num 4).1 most).fixed (r.num 4).1) r.p := rfl
  rw [show (256 : Nat) ^ 4 = 4294967296 by decide] at hlt
  have hpp0 : r.p ≤ (r.num 4).2.b.length := by rw [hnb]; exact ok.1
  rw [← hnb] at g
  generalize (r.num 4).1 = N at *
  generalize (r.num 4).2 = R1 at *
  have hpp : r.p ≤ R1.b.length := hpp0
  clear hpp0
  generalize r.p = p at *
  have hN : IntKind.i64.wrap (N : Int) = (N : Int) := IntWalk.i64_in _ (by omega)
  clear h h0 hnb ok
  by_cases h1 : R1.err = 0
  · have t1 : (R1.err == 0) = true := by simp [h1]
    have t2 : (R1.err != 0) = false := by simp [h1]
    by_cases h2 : most < (N : Int)
    · rw [show R1.cut N most = { R1 with err := 5 } from if_pos ⟨h1, h2⟩, show ({ R1 with err := 5 } : Rdr).fixed N = ([], { R1 with err := 5 }) from if_neg (show ¬ (5 : Int) = 0 by decide), show bytesEnd (([] : List UInt8), ({ R1 with err := 5 } : Rdr)) p = ([], { R1 with p := p, err := 5 }) from by unfold bytesEnd; rw [if_neg (show ¬ (5 : Int) = 0 by decide)]] at hby
      have Hby := hid hby
      have Hpp := hid hpp
      clear hby hne hnp g h1 hpp
      go_enter Tryd.func52, Tryd.ntmps52
      go_wp2_with (first
        | (go_at_call 51; (with_reducible refine ku.mono ?_); rintro e w1 ⟨q, rfl, rfl, hh1⟩; have d2 := SatL.cell ((sat_RrR.1 hh1).2 : SatL w1 (cl _ _ _ :: _)) (i := 2) (v := .int .i64 R1.err) rfl; have kf := reffail_ok (p := p) (e := 5) Hpp.out hh1)
        | (go_at_call 78; (with_reducible refine kf.mono ?_); rintro e w2 ⟨q, rfl, hh2⟩))
      go_ret
      exact Ret.mk (by rw [Hby.out]; exact Sl_nil hh2)
    · rw [show R1.cut N most = R1 from if_neg (fun h => h2 h.2)] at hby
      have hfb := Rdr.fixed_b R1 N
      have hno := fixed_no (r := R1) (n := N)
      have kx := hid (fun (w' : World) (h : SatL w' (RrR rb v R1 :: L)) => reffixed_ok (n := N) (by omega) hne h g)
      obtain ⟨q, hq⟩ : ∃ q, R1.fixed N = q := ⟨_, rfl⟩
      rw [hq] at hby hfb hno kx
      by_cases hq0 : q.2.err = 0
      · have t0 : (q.2.err == 0) = true := by simp [hq0]
        rw [show bytesEnd q p = (q.1, q.2) from by unfold bytesEnd; rw [if_pos hq0]] at hby
        have Hby := hid hby
        clear hby hne hnp g h1 hpp hq hfb hno hq0
        go_enter Tryd.func52, Tryd.ntmps52
        go_wp2_with (first
          | (go_at_call 51; (with_reducible refine ku.mono ?_); rintro e w1 ⟨q, rfl, rfl, hh1⟩; have d2 := SatL.cell ((sat_RrR.1 hh1).2 : SatL w1 (cl _ _ _ :: _)) (i := 2) (v := .int .i64 R1.err) rfl; have kk := kx.out _ hh1)
          | (go_at_call 79; (with_reducible refine kk.mono ?_); rintro e w3 ⟨v3, rfl, h3⟩; have d3 := SatL.cell ((sat_RrR.1 (h3.pull 1)).2 : SatL w3 (cl _ _ _ :: _)) (i := 2) (v := .int .i64 q.2.err) rfl))
        go_ret
        exact Ret.mk (by rw [Hby.out]; exact h3)
      · have t0 : (q.2.err == 0) = false := by simpa using hq0
        rw [show bytesEnd q p = (q.1, { q.2 with p := p }) from by unfold bytesEnd; rw [if_neg hq0], hno hq0] at hby
        have Hby := hid hby
        have Hpp := hid (show p ≤ q.2.b.length by rw [hfb]; exact hpp)
        clear hby hne hnp g h1 hpp hq hfb hno hq0
        go_enter Tryd.func52, Tryd.ntmps52
        go_wp2_with (first
          | (go_at_call 51; (with_reducible refine ku.mono ?_); rintro e w1 ⟨q, rfl, rfl, hh1⟩; have d2 := SatL.cell ((sat_RrR.1 hh1).2 : SatL w1 (cl _ _ _ :: _)) (i := 2) (v := .int .i64 R1.err) rfl; have kk := kx.out _ hh1)
          | (go_at_call 79; (with_reducible refine kk.mono ?_); rintro e w3 ⟨v3, rfl, h3⟩; obtain ⟨ok3, h3o⟩ := sat_RrR.1 (h3.pull 1); have d3 := SatL.cell (h3o : SatL w3 (cl _ _ _ :: _)) (i := 2) (v := .int .i64 q.2.err) rfl; have f1 := SatL.free (h3o : SatL w3 (cl _ _ _ :: _)) 1; have g1 := SatL.cell (h3o : SatL w3 (cl _ _ _ :: _)) (i := 1) rfl; have Hset := hid (SatL.set (h3o : SatL w3 (cl _ _ _ :: _)) (i := 1) (.int .i64 (p : Int)))))
        go_ret
        exact Ret.mk (by rw [Hby.out]; exact Sl_nil (sat_RrR.2 ⟨⟨Hpp.out, ok3.2⟩, SatL.tail (Hset.out.swap)⟩))
  · have t1 : (R1.err == 0) = false := by simpa using h1
    rw [show R1.cut N most = R1 from if_neg (fun h => h1 h.1), show R1.fixed N = ([], R1) from if_neg h1, show bytesEnd (([] : List UInt8), R1) p = ([], R1) from by unfold bytesEnd; rw [if_neg h1]; have := hnp h1; subst this; rfl] at hby
    have Hby := hid hby
    clear hby hne hnp g h1 hpp
    go_enter Tryd.func52, Tryd.ntmps52
    go_wp2_with (first
      | (go_at_call 51; (with_reducible refine ku.mono ?_); rintro e w1 ⟨q, rfl, rfl, hh1⟩; have d2 := SatL.cell ((sat_RrR.1 hh1).2 : SatL w1 (cl _ _ _ :: _)) (i := 2) (v := .int .i64 R1.err) rfl))
    go_ret
    exact Ret.mk (by rw [Hby.out]; exact Sl_nil hh1)
end
end Go.Proofs.YtpecmkkcepnpeaaDoor
