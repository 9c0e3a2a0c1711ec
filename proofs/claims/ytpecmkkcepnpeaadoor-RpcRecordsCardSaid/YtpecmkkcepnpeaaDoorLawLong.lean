/- RpcLong: the law's walk. Condition: errors.errorType's cell holds the type's handle. -/
import Derived.Test.YtpecmkkcepnpeaaDoorRecM
import Derived.Test.YtpecmkkcepnpeaaDoorLawCreds
import Derived.Test.YtpecmkkcepnpeaaDoorWithin9
namespace Go.Proofs.YtpecmkkcepnpeaaDoor
set_option linter.unusedVariables false
set_option linter.unusedSimpArgs false
open Go.RowKit
section
variable {w : World} {L : List HP}
theorem add_piece {x : List UInt8} (h : x.length ≤ 16384) : RecS.new.add (pieceB x) = ([], 0, ⟨[], x, false⟩) := by
  unfold RecS.add RecS.new
  dsimp only
  have e : recQ ([] ++ pieceB x) [] [] = ⟨[], x, [], false⟩ := by
    rw [List.nil_append, ← List.append_nil (pieceB x), recQ_piece (by simpa using h), recQ_nil, List.nil_append]
  rw [if_neg (by simp), e]
  rfl
theorem add_mark {R x : List UInt8} (h : R.length + x.length ≤ 16384) : RecS.add ⟨[], R, false⟩ (markB x) = ([R ++ x], 0, ⟨[], [], false⟩) := by
  unfold RecS.add
  dsimp only
  have e : recQ ([] ++ markB x) R [] = ⟨[], [], [R ++ x], false⟩ := by
    rw [List.nil_append, ← List.append_nil (markB x), recQ_mark h, recQ_nil, List.nil_append]
  rw [if_neg (by simp), e]
  rfl
theorem add_mark_long {R x : List UInt8} (h : 16384 < R.length + x.length) (hx : x.length < 2147483648) : RecS.add ⟨[], R, false⟩ (markB x) = ([], 5, ⟨[], [], true⟩) := by
  unfold RecS.add
  dsimp only
  have e : (recQ ([] ++ markB x) R []).long = true := by
    rw [List.nil_append, ← List.append_nil (markB x)]
    exact recQ_mark_long h hx
  rw [if_neg (by simp), e, if_pos rfl]
theorem rows_val {v : Value} {l : List (List UInt8)} (h : SatL w (RowsL v l :: L)) {n : Nat} (hn : l.length = n) : ∃ a c, v = .slice a n c := by
  obtain ⟨rs, hrs, h1⟩ := sat_RowsL.1 h
  obtain ⟨a, c, e, _, _⟩ := Sl.valn (sat_RowsQ.1 h1) (m := n) (by rw [List.length_map, ← hn, ← hrs, List.length_map])
  exact ⟨a, c, e⟩
theorem rows_one {v : Value} {d : List UInt8} {n : Nat} (h : SatL w (RowsL v [d] :: L)) (hn : d.length = n) : ∃ b off c xa xc, v = .slice (some ⟨b, off, none⟩) 1 c ∧ w.cell? ⟨b, off, none⟩ = some (.slice xa n xc) ∧ SatL w (SlB 5 (.slice xa n xc) d :: L) := by
  obtain ⟨rs, hrs, h1⟩ := sat_RowsL.1 h
  match rs, hrs with
  | [r], hrs =>
    have hd : r.d = d := by simpa using hrs
    subst hd
    have h2 := sat_RowsQ.1 h1
    obtain ⟨a, c, rfl, _, _⟩ := Sl.valn h2 (m := 1) rfl
    obtain ⟨b, off, rfl⟩ := Sl.addr h2 (by omega)
    have hc := Sl.cell h2 (i := 0) (x := r.v) rfl
    have h3 : SatL w (SlB 5 r.v r.d :: L) := big_nil.1 (SatL.swap (big_cons.1 h2.tail))
    obtain ⟨xa, xc, e, _, _⟩ := Sl.valn h3 (m := n) (by rw [bvs_len]; exact hn)
    rw [e] at h3 hc
    exact ⟨b, off, c, xa, xc, rfl, by rwa [Nat.add_zero] at hc, h3⟩
theorem minL {n mn : Nat} (h : mn = min n 16384) : ∀ w : World, (Builtin.min_ #[3, 3] 3 #[.int .i64 (n : Int), .int .i64 16384]).run Tryd.prog w = .ok (.int .i64 (mn : Int)) w := fun w => by
  have e : (Builtin.min_ #[3, 3] 3 #[.int .i64 (n : Int), .int .i64 16384]).run Tryd.prog w = .ok (.int .i64 (if (16384 : Int) < n then 16384 else (n : Int))) w := rfl
  rw [e]
  by_cases h2 : 16384 < n
  · rw [if_pos (by omega), show mn = 16384 by omega]; rfl
  · rw [if_neg (by omega), show mn = n by omega]
set_option maxRecDepth 100000 in
set_option maxHeartbeats 4000000 in
theorem long_walk {a0 a1 : Int} {v : Value} {bb : List UInt8} (w : World) (hr : RdV v bb w) (hH : HndW w) :
    Calls Tryd.prog 6 #[.int .i64 a0, .int .i64 a1, v] w (Ret fun q w' => q = .bool true ∧ SatL w' [old w]) := by
  obtain ⟨ga, gc, rfl, g1, g2⟩ := hr.valn
  have kK := known_ok (sat_old w) hH.old
  by_cases hl : 1000 < bb.length
  · have hb1 : ((1000 : Int) < bb.length) = True := by simp; omega
    have hb2 : (1000 < bb.length) = True := by simp; omega
    clear hl hH hr
    go_enter Tryd.func6, Tryd.ntmps6
    go_wp2_with (first
      | (go_at_call 12; (with_reducible refine kK.mono ?_); rintro ev w1 ⟨q, rfl, rfl, hs⟩))
    go_ret
    exact Ret.mk ⟨rfl, hs⟩
  · have hb1 : ((1000 : Int) < bb.length) = False := by simp; omega
    have hb2 : (1000 < bb.length) = False := by simp; omega
    obtain ⟨k0, hk0, kW1⟩ := within_nat a0 200 (by omega)
    obtain ⟨n, hn⟩ : ∃ n, n = 16284 + k0 := ⟨_, rfl⟩
    have hwn : IntKind.i64.wrap (16284 + (k0 : Int)) = (n : Int) := by rw [IntWalk.i64_in _ (by omega)]; omega
    obtain ⟨mn, hmn⟩ : ∃ mn, mn = min n 16384 := ⟨_, rfl⟩
    have hmin := minL hmn
    obtain ⟨F, hF, kW2⟩ := within_nat a1 (mn : Int) (by omega)
    obtain ⟨G, hG⟩ : ∃ G, G = n - F := ⟨_, rfl⟩
    have hwG : IntKind.i64.wrap ((n : Int) - (F : Int)) = (G : Int) := by rw [IntWalk.i64_in _ (by omega)]; omega
    have hbd : F ≤ 16384 ∧ G ≤ 17000 ∧ F + G = n ∧ n ≤ 17000 := by omega
    have hblk : bb.length ≤ 1000 := by omega
    have Hbd := hid hbd
    have Hblk := hid hblk
    have HR := hid hr.old
    clear hl hH hr hk0 hn hmn hF hG hbd hblk
    go_enter Tryd.func6, Tryd.ntmps6
    go_upto_region 8 with (first
      | (go_at_call 12; (with_reducible refine kK.mono ?_); rintro ev w1 ⟨q, rfl, rfl, hs⟩; clear kK)
      | (go_at_call 19; (with_reducible refine (kW1 _).mono ?_); rintro ev w2 ⟨rfl, rfl⟩)
      | (go_at_call 19; (with_reducible refine (kW2 _).mono ?_); rintro ev w3 ⟨rfl, rfl⟩; have kN := newrecords_ok hs)
      | (go_at_call 15; (with_reducible refine kN.mono ?_); rintro ev w4 ⟨q, rfl, rb, rfl, h4⟩; clear kN hs))
    have hF1 : F * 1 ≤ 281474976710656 := by have := Hbd.out; omega
    have hF2 : F ≤ 4611686018427387904 := by have := Hbd.out; omega
    obtain ⟨q0, t0, hq0, hmk, hpc⟩ := mark_first (x := List.replicate F 0) (by rw [List.length_replicate]; have := Hbd.out; omega)
    obtain ⟨ml, hml⟩ : ∃ ml, (markB (List.replicate F 0)).length = ml := ⟨_, rfl⟩
    have hml0 : 0 < ml := by rw [← hml, markB_len]; omega
    have hml1 : (0 : Int) < (ml : Int) := by omega
    have hand := u8_and127 q0 hq0
    obtain ⟨x0, hx0⟩ : ∃ x0, x0 = 128 + q0 := ⟨_, rfl⟩
    rw [← hx0] at hand
    have Hx0 := hid hx0
    clear hx0
    have hF3 : (List.replicate F (0 : UInt8)).length ≤ 100000000 := by rw [List.length_replicate]; have := Hbd.out; omega
    have Hml := hid hml
    have Hmk := hid hmk
    have Hpc := hid hpc
    clear hml hmk hpc
    go_upto_region 11 with (first
      | (refine wpList_make_sl rfl (.tmp 28) (.tmp 28) rfl elem_byte F rfl rfl h4 hF1 hF2 ?_; intro w5 h5; rw [← bvs_zeros] at h5; have km := mark_ok (b := List.replicate F 0) hF3 h5 (fun w' h' => RdB.v (SlB.rd h')); clear h4)
      | (go_at_call 18; (with_reducible refine km.mono ?_); rintro ev w6 ⟨q, rfl, h6⟩; obtain ⟨ma, mc, rfl, _, _⟩ := Sl.valn h6 (m := ml) (by rw [bvs_len]; exact Hml.out); obtain ⟨mb, mo, rfl⟩ := Sl.addr h6 (by omega); clear km h5))
    have h7 : SatL w6 (SlB 5 (.slice (some ⟨mb, mo, none⟩) ml mc) (byteOf (128 + q0) :: t0) :: _) := Hmk.out ▸ h6
    have c0 := Sl.cell h7 (i := 0) (x := bv (byteOf (128 + q0))) rfl
    rw [Nat.add_zero, bv_byteOf, Nat.mod_eq_of_lt (by omega), ← Hx0.out] at c0
    have f0 := Sl.free h7 mo
    have h8 := Sl.set h7 (i := 0) (by simp) (.int .u8 (q0 : Int))
    rw [Nat.add_zero, show (bvs (byteOf (128 + q0) :: t0)).set 0 (.int .u8 (q0 : Int)) = bvs (pieceB (List.replicate F 0)) by rw [Hpc.out]; show Value.int .u8 (q0 : Int) :: bvs t0 = bv (byteOf q0) :: bvs t0; rw [bv_byteOf, Nat.mod_eq_of_lt (by omega)]] at h8
    have H8 := hid h8
    clear h6 h7 h8
    go_upto_region 12 with fail
    have h9 := H8.out
    generalize w6.setCell ⟨mb, mo, none⟩ (.int .u8 (q0 : Int)) = w7 at h9 ⊢
    generalize w4.heap.size = c4 at h9 ⊢
    have ka1 := add_ok (s := RecS.new) (b := pieceB (List.replicate F 0)) (by rw [pieceB_len, List.length_replicate]; have := Hbd.out; show 0 + (4 + F) ≤ 100000000; omega) (Nat.zero_le _) (h9.pull 2) (fun w' h' => RdB.v (SlB.rd h'))
    rw [add_piece (by rw [List.length_replicate]; exact Hbd.out.1)] at ka1
    clear h9 H8 c0 f0 hand hF1 hF2 hF3 kW1 kW2 hwn hmin
    go_upto_region 15 with (go_at_call 16; (with_reducible refine ka1.mono ?_); rintro ev w8 ⟨q, rfl, ov, rfl, h11⟩; obtain ⟨oa, oc, rfl⟩ := rows_val h11 (n := 0) rfl; clear ka1)
    have hG1 : G * 1 ≤ 281474976710656 := by have := Hbd.out; omega
    have hG2 : G ≤ 4611686018427387904 := by have := Hbd.out; omega
    have hG3 : (List.replicate G (0 : UInt8)).length ≤ 100000000 := by rw [List.length_replicate]; have := Hbd.out; omega
    have hF4 : (List.replicate F (0 : UInt8)).length ≤ 16384 := by rw [List.length_replicate]; have := Hbd.out; omega
    obtain ⟨gl, hgl⟩ : ∃ gl, (markB (List.replicate G 0)).length = gl := ⟨_, rfl⟩
    obtain ⟨bl3, hbl3⟩ : ∃ bl3, (markB bb).length = bl3 := ⟨_, rfl⟩
    have hA2 : ([] : List UInt8).length + (markB (List.replicate G 0)).length ≤ 100000000 := by rw [markB_len, List.length_replicate]; have := Hbd.out; show 0 + (4 + G) ≤ 100000000; omega
    have hA3 : ([] : List UInt8).length + (markB bb).length ≤ 100000000 := by rw [markB_len]; have := Hblk.out; show 0 + (4 + bb.length) ≤ 100000000; omega
    have hB3 : bb.length ≤ 100000000 := by have := Hblk.out; omega
    have Hgl := hid hgl
    have Hbl3 := hid hbl3
    clear hgl hbl3
    by_cases hlong : 16384 < n
    · have t1 : ((16384 : Int) < (n : Int)) = True := by simp; omega
      have t2 : (16384 < n) = True := by simp; omega
      have e2 := add_mark_long (R := List.replicate F 0) (x := List.replicate G 0) (by rw [List.length_replicate, List.length_replicate]; have := Hbd.out; omega) (by rw [List.length_replicate]; have := Hbd.out; omega)
      have e3 : RecS.add ⟨[], [], true⟩ (markB bb) = ([], 5, ⟨[], [], true⟩) := rfl
      have E2 := hid e2
      have E3 := hid e3
      clear e2 e3 hlong
      go_upto_region 17 with (first
        | (refine wpList_make_sl rfl (.tmp 54) (.tmp 54) rfl elem_byte G rfl rfl h11 hG1 hG2 ?_; intro w9 h12; rw [← bvs_zeros] at h12; have km2 := mark_ok (b := List.replicate G 0) hG3 h12 (fun w' h' => RdB.v (SlB.rd h')); clear h11)
        | (go_at_call 18; (with_reducible refine km2.mono ?_); rintro ev w10 ⟨q, rfl, h13⟩; obtain ⟨m2a, m2c, rfl, _, _⟩ := Sl.valn h13 (m := gl) (by rw [bvs_len]; exact Hgl.out); have ka2 := add_ok (s := ⟨[], List.replicate F 0, false⟩) (b := markB (List.replicate G 0)) hA2 hF4 (h13.pull 3) (fun w' h' => RdB.v (SlB.rd h')); rw [E2.out] at ka2; clear km2 h12 h13)
        | (go_at_call 16; (with_reducible refine ka2.mono ?_); rintro ev w11 ⟨q, rfl, ov2, rfl, h14⟩; obtain ⟨p2a, p2c, rfl⟩ := rows_val h14 (n := 0) rfl; have km3 := mark_ok (b := bb) hB3 h14 (fun w' h' => HR.out w' h'.tail.tail.tail.tail.tail.tail.tail); clear ka2)
        | (go_at_call 18; (with_reducible refine km3.mono ?_); rintro ev w12 ⟨q, rfl, h15⟩; obtain ⟨m3a, m3c, rfl, _, _⟩ := Sl.valn h15 (m := bl3) (by rw [bvs_len]; exact Hbl3.out); have ka3 := add_ok (b := markB bb) hA3 (Nat.zero_le _) (h15.pull 2) (fun w' h' => RdB.v (SlB.rd h')); rw [E3.out] at ka3; clear km3 h14 h15)
        | (go_at_call 16; (with_reducible refine ka3.mono ?_); rintro ev w13 ⟨q, rfl, ov3, rfl, h16⟩; obtain ⟨p3a, p3c, rfl⟩ := rows_val h16 (n := 0) rfl; clear ka3))
      have Hold := hid (h16.tail.tail.tail.tail.tail.tail.tail.tail.tail : SatL w13 [old w])
      clear h16
      go_wp2_with fail
      go_ret
      exact Ret.mk ⟨rfl, Hold.out⟩
    · have t1 : ((16384 : Int) < (n : Int)) = False := by simp; omega
      have t2 : (16384 < n) = False := by simp; omega
      have e2 := add_mark (R := List.replicate F 0) (x := List.replicate G 0) (by rw [List.length_replicate, List.length_replicate]; have := Hbd.out; omega)
      have e3 := add_mark (R := []) (x := bb) (by have := Hblk.out; show 0 + bb.length ≤ 16384; omega)
      rw [List.nil_append] at e3
      have E2 := hid e2
      have E3 := hid e3
      clear e2 e3 hlong
      go_upto_region 17 with (first
        | (refine wpList_make_sl rfl (.tmp 54) (.tmp 54) rfl elem_byte G rfl rfl h11 hG1 hG2 ?_; intro w9 h12; rw [← bvs_zeros] at h12; have km2 := mark_ok (b := List.replicate G 0) hG3 h12 (fun w' h' => RdB.v (SlB.rd h')); clear h11)
        | (go_at_call 18; (with_reducible refine km2.mono ?_); rintro ev w10 ⟨q, rfl, h13⟩; obtain ⟨m2a, m2c, rfl, _, _⟩ := Sl.valn h13 (m := gl) (by rw [bvs_len]; exact Hgl.out); have ka2 := add_ok (s := ⟨[], List.replicate F 0, false⟩) (b := markB (List.replicate G 0)) hA2 hF4 (h13.pull 3) (fun w' h' => RdB.v (SlB.rd h')); rw [E2.out] at ka2; clear km2 h12 h13)
        | (go_at_call 16; (with_reducible refine ka2.mono ?_); rintro ev w11 ⟨q, rfl, ov2, rfl, h14⟩; obtain ⟨p2a, p2c, rfl⟩ := rows_val h14 (n := 1) rfl; have km3 := mark_ok (b := bb) hB3 h14 (fun w' h' => HR.out w' h'.tail.tail.tail.tail.tail.tail.tail); clear ka2)
        | (go_at_call 18; (with_reducible refine km3.mono ?_); rintro ev w12 ⟨q, rfl, h15⟩; obtain ⟨m3a, m3c, rfl, _, _⟩ := Sl.valn h15 (m := bl3) (by rw [bvs_len]; exact Hbl3.out); have ka3 := add_ok (b := markB bb) hA3 (Nat.zero_le _) (h15.pull 2) (fun w' h' => RdB.v (SlB.rd h')); rw [E3.out] at ka3; clear km3 h14 h15)
        | (go_at_call 16; (with_reducible refine ka3.mono ?_); rintro ev w13 ⟨q, rfl, ov3, rfl, h16⟩; obtain ⟨p3a, p3c, rfl⟩ := rows_val h16 (n := 1) rfl; clear ka3))
      have Hold := hid (h16.tail.tail.tail.tail.tail.tail.tail.tail.tail : SatL w13 [old w])
      obtain ⟨b3, o3, c3, x3a, x3c, e3, hc3, hs3⟩ := rows_one h16 (n := bb.length) rfl
      obtain ⟨b2, o2, c2, x2a, x2c, e2, hc2, hs2⟩ := rows_one (h16.pull 3) (n := n) (by rw [List.length_append, List.length_replicate, List.length_replicate]; exact Hbd.out.2.2.1)
      cases e3
      cases e2
      have hr3 : ∀ m, RdB (.slice x3a bb.length x3c) bb (w13.drewN m) := fun m => SlB.rd (sat_drewM.2 hs3)
      have hrb : ∀ m, RdV (.slice ga bb.length gc) bb (w13.drewN m) := fun m => HR.out _ (sat_drewM.2 Hold.out)
      have v3 := fun m => RdB.conv (hr3 m)
      have v4 := fun m => RdV.conv (hrb m)
      have v30 : (convert 27 9 (.slice x3a bb.length x3c)).run Tryd.prog w13 = .ok (.string ⟨bb.toArray⟩) w13 := RdB.conv (SlB.rd hs3)
      generalize (⟨bb.toArray⟩ : ByteArray) = SB at *
      clear h16 hs3 hs2 hr3 hrb
      go_upto_region 19 with fail
      go_quiet (fail)
      go_wp2
      go_ret
      exact Ret.mk ⟨rfl, sat_drewM.2 Hold.out⟩
end
end Go.Proofs.YtpecmkkcepnpeaaDoor
