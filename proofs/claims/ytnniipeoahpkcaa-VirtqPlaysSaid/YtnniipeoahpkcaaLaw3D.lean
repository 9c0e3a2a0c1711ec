/- do of chapter 3's statements: Take, Give, Used, Poke. No condition beside the sizes that each names. -/
import Derived.Test.YtnniipeoahpkcaaLaw3C
import Derived.Test.YtnniipeoahpkcaaR3T
namespace Go.Proofs.Ytnniipeoahpkcaa
set_option linter.unusedVariables false
set_option linter.unusedSimpArgs false
open Go.RowKit
section
variable {w : World} {L : List HP} {bb Z : Nat} {d : Dr} {r : Ring} {m : List UInt8} {T : List Nat} {l : List Bf} {la : Option Addr} {lc : Nat} {N M : Int}
set_option maxRecDepth 100000 in
set_option maxHeartbeats 4000000 in
theorem do_take {ln : Nat}  (pi : PI Z d r m) (hT : T.length ≤ 200 ∧ ∀ x ∈ T, x < 65536) (h : SatL w (BothR bb Z d r m T :: L)) :
    Calls Try.prog 19 #[.pointer (some ⟨bb, 0, none⟩), .agg #[.int .i64 2, .int .i64 N, .int .i64 M, .slice la ln lc]] w (Ret fun v w' => DoPost bb Z T L v w') := by
  obtain ⟨db, vb, xb, yb, mb, nb, tv, h0⟩ := sat_BothR.1 h
  clear h
  have h1 := h0.alloc (.cells #[.int .i64 2, .int .i64 N, .int .i64 M, .slice la ln lc] 51)
  have h1b : SatL (w.alloc (.cells #[.int .i64 2, .int .i64 N, .int .i64 M, .slice la ln lc] 51)) (cl w.heap.size 51 #[.int .i64 2, .int .i64 N, .int .i64 M, .slice la ln lc] :: _) := h1
  have hcl := hid (fun (w' : World) (X : List HP) (h : SatL w' (cl w.heap.size 51 #[.int .i64 2, .int .i64 N, .int .i64 M, .slice la ln lc] :: X)) => (⟨h.cell (i := 1) rfl, h.cell (i := 2) rfl⟩ : w'.cell? ⟨w.heap.size, 1, none⟩ = some (.int .i64 N) ∧ w'.cell? ⟨w.heap.size, 2, none⟩ = some (.int .i64 M)))
  have hbc := hid (fun (w' : World) (X : List HP) (h : SatL w' (cl bb 57 (bothV db vb xb yb (smV mb Z) (smV nb Z) tv).toArray :: X)) => both_cells h)
  have c0 := SatL.cell h1b (i := 0) (v := .int .i64 2) rfl
  have hmz : m.length ≤ 1000000 := by have := pi.ml; have := pi.zl; omega
  obtain ⟨d0, d1, d2, d3, d4, d5, d6⟩ := hbc.out _ _ h1b.tail
  obtain ⟨ta, tc, rfl, t1, t2⟩ := Sl.valn (h1b.pull 8 : SatL _ (Sl _ _ _ :: _)) (m := T.length) (by unfold natV; rw [List.length_map])
  have ka := take_ok pi.rk hmz (h1b.bring [3, 4, 0, 1, 2, 5, 6, 7, 8])
  have kx := hid (fun (w' : World) (X : List HP) (h : SatL w' (XDevR yb nb 0 Z Z r :: SlB 5 (smV nb Z) m :: X)) => reftake_ok pi.rk hmz h)
  have Hpi := hid (show PI Z d (r.take m).2 m from ⟨pi.dk, take_keeps pi.rk, pi.ow, pi.ml, pi.zl⟩)
  have hhd : (r.take m).1.head < 65536 := by
    unfold Ring.take; split
    · exact Nat.zero_lt_succ _
    · split
      · exact Nat.zero_lt_succ _
      · exact lget_lt m _ 2
  have hsb := hid (fun (w' : World) (X : List HP) (va vb' : Option Addr) (vc vd : Nat) (h : SatL w' X) (g1 : Gives X (BRow va (r.take m).1.l)) (g2 : Gives X (BRow vb' (r.take m).1.l)) => samebufs_ok (c := vc) (d := vd) h g1 g2)
  generalize r.take m = J at *
  obtain ⟨⟨hd, bl, er⟩, r'⟩ := J
  simp only at *
  have hT2 := hid hT
  have hTl : T.length ≤ 200 := hT.1
  have b1 : ((natV T).length + 1) * 8 ≤ 140737488355328 := by unfold natV; rw [List.length_map]; omega
  have happ := hid (show natV T ++ [Value.int .i64 (hd : Int)] = natV (T ++ [hd]) by unfold natV; rw [List.map_append]; rfl)
  clear h0 h1 pi hmz d0 d2 d4 d5 hT
  go_enter Try.func19, Try.ntmps19
  go_upto_region 10 with (first
    | (go_at_call 13; (with_reducible refine ka.mono ?_); rintro e w3 ⟨v, rfl, lv, rfl, h3⟩; obtain ⟨va, vc, rfl, v1, v2⟩ := SlK.valn h3; obtain ⟨_, _, _, e3, _, _, _⟩ := hbc.out _ _ (h3.pull 4); have kq := kx.out _ _ (h3.bring [7, 8, 0, 1, 2, 3, 4, 5, 6, 9]))
    | (go_at_call 34; (with_reducible refine kq.mono ?_); rintro e w4 ⟨v, rfl, lv, rfl, h4⟩; obtain ⟨ua, uc, rfl, u1, u2⟩ := SlK.valn h4; obtain ⟨_, _, _, _, _, _, f6⟩ := hbc.out _ _ (h4.pull 7)))
  have Bj := hid (And.intro v1 (And.intro v2 (And.intro u1 u2)))
  by_cases her : er = 0
  · subst her
    have hN := h4.pull 10
    go_wp2_with (first
      | (at_builtin; refine wpList_push_sl rfl (.tmp 90) (.tmp 92) rfl elem_int (by decide) rfl hN rfl rfl b1 ?_; intro v5 w5 h5; rw [happ.out] at h5; obtain ⟨na, nn, nc, rfl⟩ := Sl.val h5; have x5 := (h5.pull 8).free 6; obtain ⟨_, _, _, _, _, _, y6⟩ := hbc.out _ _ (h5.pull 8); have h6 := (h5.pull 8 : SatL _ (cl bb _ _ :: _)).set (i := 6) (.slice na nn nc); have kb := hsb.out _ _ va ua vc uc h6 (Gives.nx (Gives.nx (Gives.nx (Gives.nx (Gives.nx (fun _ h => BufR.brow h)))))) (Gives.nx (Gives.nx (fun _ h => BufR.brow h))))
      | (go_at_call 33; (with_reducible refine kb.mono ?_); rintro e w6 ⟨v, rfl, rfl, h7⟩))
    go_ret
    refine Ret.mk ⟨rfl, d, r', m, T ++ [hd], Hpi.out, ⟨by simp, fun x hx => ?_⟩, sat_BothR.2 ⟨db, vb, xb, yb, mb, nb, .slice na nn nc, ?_⟩⟩
    · rcases List.mem_append.1 hx with hx | hx
      · exact hT2.out.2 x hx
      · simp at hx; omega
    · exact SatL.tail (SatL.tail (SatL.tail (h7.bring [2, 5, 8, 0, 9, 6, 7, 10, 3, 4, 1])))
  · have kb := hsb.out _ _ va ua vc uc h4 (Gives.nx (Gives.nx (Gives.nx (fun _ h => BufR.brow h)))) (fun _ h => BufR.brow h)
    go_wp2_with (first
      | (go_at_call 33; (with_reducible refine kb.mono ?_); rintro e w6 ⟨v, rfl, rfl, h7⟩))
    go_ret
    refine Ret.mk ⟨rfl, d, r', m, T, Hpi.out, ⟨by omega, hT2.out.2⟩, sat_BothR.2 ⟨db, vb, xb, yb, mb, nb, .slice ta T.length tc, ?_⟩⟩
    exact SatL.tail (SatL.tail (SatL.tail (h7.bring [0, 3, 6, 7, 8, 4, 5, 9, 1, 2, 10])))
end
end Go.Proofs.Ytnniipeoahpkcaa
