/- The document's queue: Used. No condition beside the sizes that it names. -/
import Derived.Test.YtnniipeoahpkcaaR3P
import Derived.Test.YtnniipeoahpkcaaR3G
import Derived.Test.YtnniipeoahpkcaaVqS
namespace Go.Proofs.Ytnniipeoahpkcaa
set_option linter.unusedVariables false
set_option linter.unusedSimpArgs false
open Go.RowKit
theorem elem_chain : ElemOk Try.prog 87 95 2 32 [Value.int .i64 0, Value.slice none 0 0] := .of (z := .agg #[.int .i64 0, .slice none 0 0]) (by kernel_rfl) (by kernel_rfl) rfl rfl (by decide) (by simp [Value.oneCell'])
section
variable {w : World} {L : List HP} {db mb o N c : Nat} {d : Dr} {m : List UInt8}
theorem big_vals {w : World} : ∀ {rs : Chs} {L : List HP}, SatL w (big (fun r : Rf (List Nat) => NatsL r.v r.xs) rs :: L) → ∀ y ∈ chRow rs, y.oneCell' = true
  | [], L, h => by intro y hy; simp [chRow] at hy
  | r :: rs, L, h => by
    have h1 := big_cons.1 h
    have h2 := big_vals h1.tail
    obtain ⟨a, n, c, hv⟩ := SlK.val (T := 3) (k := 1) (h1 : SatL w (SlK _ _ _ _ _ :: _))
    intro y hy
    have e : chRow (r :: rs) = .int .i64 r.k :: r.v :: chRow rs := rfl
    rw [e] at hy
    rcases List.mem_cons.1 hy with rfl | hy
    · rfl
    rcases List.mem_cons.1 hy with rfl | hy
    · rw [hv]; rfl
    · exact h2 y hy
theorem chs_len {n : Nat} {rs : Chs} (hn : (rs.map (·.k)).Nodup) (hk : ∀ r ∈ rs, 0 ≤ r.k ∧ r.k < n) : rs.length ≤ n := by
  have := List.Nodup.length_le_of_subset hn (l₂ := (List.range n).map fun j : Nat => (j : Int)) (fun k hm => by
    obtain ⟨x, hx, rfl⟩ := List.mem_map.1 hm
    have := hk x hx
    exact List.mem_map.2 ⟨x.k.toNat, List.mem_range.2 (by omega), by omega⟩)
  simpa using this
theorem xdrv_cells {tv fv : Value} (h : SatL w (cl db 89 (xdrvV mb o N c d.r tv fv).toArray :: L)) : w.cell? ⟨db, 0, none⟩ = some (.slice (some ⟨mb, o, none⟩) N c) ∧ w.cell? ⟨db, 1, none⟩ = some (.int .i64 d.r.base) ∧ w.cell? ⟨db, 2, none⟩ = some (.int .i64 d.r.n) ∧ w.cell? ⟨db, 3, none⟩ = some tv ∧ w.cell? ⟨db, 4, none⟩ = some (.int .i64 d.r.off) ∧ w.cell? ⟨db, 5, none⟩ = some (.int .i64 d.r.use) ∧ w.cell? ⟨db, 6, none⟩ = some fv :=
  ⟨h.cell (i := 0) rfl, h.cell (i := 1) rfl, h.cell (i := 2) rfl, h.cell (i := 3) rfl, h.cell (i := 4) rfl, h.cell (i := 5) rfl, h.cell (i := 6) rfl⟩
set_option maxRecDepth 100000 in
set_option maxHeartbeats 8000000 in
theorem refused_ok (ok : DrOk d m.length) (hm : m.length ≤ 1000000) (hkey : ∀ k c, d.ch k = some c → 0 ≤ k ∧ k < d.r.n) (h : SatL w (XDrvR db mb o N c d :: SlB 5 (.slice (some ⟨mb, o, none⟩) N c) m :: L)) :
    Calls Try.prog 36 #[.pointer (some ⟨db, 0, none⟩)] w (Ret fun v w' => v = .tuple #[.int .i64 (d.used m).h, .int .i64 (d.used m).l, .int .i64 (d.used m).e] ∧ SatL w' (XDrvR db mb o N c (d.used m).d :: SlB 5 (.slice (some ⟨mb, o, none⟩) N c) m :: L)) := by
  obtain ⟨tv, fv, rs, ⟨hch, hnd⟩, h1⟩ := sat_XDrvR.1 h
  clear h
  obtain ⟨⟨pw, fit, ob, ub⟩, hbl, hcn⟩ := ok
  have hn := pow2_le pw
  obtain ⟨fa, fc, rfl, f1, f2⟩ := SlK.valn (h1.pull 2 : SatL w (SlK _ _ _ _ _ :: _))
  obtain ⟨ba, bc, rfl, lb1, lb2⟩ := Sl.valn (SatL.pull h1 1 : SatL w (Sl _ _ _ :: _)) (m := d.r.n) (by rw [List.length_map, hbl])
  obtain ⟨bb, bo, rfl⟩ := Sl.addr (SatL.pull h1 1 : SatL w (Sl _ _ _ :: _)) (by omega)
  have hqs : qs d.r.n = 8 + 26 * d.r.n := rfl
  have hua := usedAt_le d.r (by omega)
  have hrl : rs.length ≤ d.r.n := chs_len hnd (fun r hr => by
    have : (ofget rs r.k).isSome = true := mem_rfm.1 (List.mem_map.2 ⟨(r.k, r.v), List.mem_map.2 ⟨r, hr, rfl⟩, rfl⟩)
    rw [← hch] at this
    obtain ⟨x, hx⟩ := Option.isSome_iff_exists.1 this
    exact hkey _ _ hx)
  obtain ⟨c0, c1, c2, c3, c4, c5, c6⟩ := xdrv_cells h1
  obtain ⟨K, hK⟩ : ∃ K, K = d.r.base + (18 * d.r.n + 4) := ⟨_, rfl⟩
  obtain ⟨U, hU⟩ : ∃ U, U = d.r.base + d.r.usedAt := ⟨_, rfl⟩
  obtain ⟨q, hq⟩ : ∃ q, q = d.r.use % d.r.n := ⟨_, rfl⟩
  have hqn : q < d.r.n := by rw [hq]; exact Nat.mod_lt _ (by omega)
  have hU2 : d.r.usedAt = 18 * d.r.n + 4 + 4 + 8 * q := by unfold Ring.usedAt; rw [← hq]
  have e1 : Int.tmod (d.r.use : Int) (d.r.n : Int) = (q : Int) := by rw [Int.tmod_eq_emod_of_nonneg (by omega), hq]; rfl
  have e2 : (d.r.use : Int) % (d.r.n : Int) = (q : Int) := by rw [hq]; rfl
  have hnz : ¬ (d.r.n : Int) = 0 := by omega
  have hnz0 : ¬ d.r.n = 0 := by omega
  have hg := hid (fun (w' : World) (X : List HP) (a k : Nat) (hk : sizeOk k) (hk4 : k ≤ 4) (ha : a + k ≤ m.length) (h : SatL w' (SlB 5 (.slice (some ⟨mb, o, none⟩) N c) m :: X)) => reflem_ok (k := k) (a := a) hk hk4 ha (SlB.rd h))
  have hq2 := hid (fun (wA : World) (X : List HP) (h : SatL wA (SlB 5 (.slice (some ⟨mb, o, none⟩) N c) m :: X)) (k : Nat) => quietR (n := k) (reflem_ok (w := wA.drewN k) (a := K + 2) (k := 2) (.inr (.inl rfl)) (by omega) (by omega) (RdB.drewN (SlB.rd h) k)))
  simp only [show ((K + 2 : Nat) : Int) = (K : Int) + 2 by omega, show ((2 : Nat) : Int) = 2 from rfl] at hq2
  have hres : d.used m = if lget m (K + 2) 2 = d.r.use then ⟨0, 0, 2, d⟩ else
      match d.ch (lget m U 4) with
      | none => ⟨0, 0, 15, { d with r := d.r.stepU }⟩
      | some c => ⟨lget m U 4, lget m (U + 4) 4, 0, ⟨d.r.stepU, unbusy d.busy c, fun j => if j = (lget m U 4 : Nat) then none else d.ch j⟩⟩ := by rw [hK, hU]; rfl
  have qA := hid (fun (w' : World) (X : List HP) (h : SatL w' (SlB 5 (.slice (some ⟨mb, o, none⟩) N c) m :: X)) => hg.out w' X U 4 (.inr (.inr (.inl rfl))) (by omega) (by omega) h)
  have qB := hid (fun (w' : World) (X : List HP) (h : SatL w' (SlB 5 (.slice (some ⟨mb, o, none⟩) N c) m :: X)) => hg.out w' X (U + 4) 4 (.inr (.inr (.inl rfl))) (by omega) (by omega) h)
  simp only [show ((U + 4 : Nat) : Int) = (U : Int) + 4 by omega, show ((4 : Nat) : Int) = 4 from rfl] at qA qB
  have bh : lget m (K + 2) 2 < 65536 := lget_lt m _ 2
  have bA : lget m U 4 < 4294967296 := lget_lt m _ 4
  have bB : lget m (U + 4) 4 < 4294967296 := lget_lt m _ 4
  have hro : (d.r.use + 1) % 65536 < 65536 := Nat.mod_lt _ (by omega)
  have e3 : Int.tmod ((d.r.use : Int) + 1) 65536 = (((d.r.use + 1) % 65536 : Nat) : Int) := by rw [Int.tmod_eq_emod_of_nonneg (by omega)]; omega
  have e4 : ((d.r.use : Int) + 1) % 65536 = (((d.r.use + 1) % 65536 : Nat) : Int) := by omega
  have hset : Hid (∀ (w' : World) (X : List HP), SatL w' (cl db 89 (xdrvV mb o N c d.r (.slice (some ⟨bb, bo, none⟩) d.r.n bc) (.slice fa rs.length fc)).toArray :: X) → SatL (w'.setCell ⟨db, 5, none⟩ (.int .i64 ((d.r.use + 1) % 65536 : Nat))) (cl db 89 (xdrvV mb o N c d.r.stepU (.slice (some ⟨bb, bo, none⟩) d.r.n bc) (.slice fa rs.length fc)).toArray :: X)) := hid (fun w' X h => SatL.set h (i := 5) (.int .i64 ((d.r.use + 1) % 65536 : Nat)))
  have hcl2 : Hid (∀ (w' : World) (X : List HP), SatL w' (cl db 89 (xdrvV mb o N c d.r.stepU (.slice (some ⟨bb, bo, none⟩) d.r.n bc) (.slice fa rs.length fc)).toArray :: X) → w'.cell? ⟨db, 3, none⟩ = some (.slice (some ⟨bb, bo, none⟩) d.r.n bc) ∧ w'.cell? ⟨db, 6, none⟩ = some (.slice fa rs.length fc) ∧ w'.frozen? ⟨db, 6, none⟩ = false) := hid (fun w' X h => ⟨h.cell (i := 3) rfl, h.cell (i := 6) rfl, h.free 6⟩)
  have hbz : (d.r.base : Int) ≤ 1000000 := by omega
  have hnz2 : (d.r.n : Int) ≤ 256 := by omega
  have w1 : IntKind.i64.wrap (18 * (d.r.n : Int)) = 18 * (d.r.n : Int) := IntWalk.i64_in _ (by omega)
  have w2 : IntKind.i64.wrap ((d.r.base : Int) + 18 * (d.r.n : Int)) = (d.r.base : Int) + 18 * (d.r.n : Int) := IntWalk.i64_in _ (by omega)
  have w3 : IntKind.i64.wrap ((d.r.base : Int) + 18 * (d.r.n : Int) + 4) = (K : Int) := by rw [show (d.r.base : Int) + 18 * (d.r.n : Int) + 4 = (K : Int) by omega]; exact IntWalk.i64_in _ (by omega)
  have w4 : IntKind.i64.wrap (q : Int) = (q : Int) := IntWalk.i64_in _ (by omega)
  have w5 : IntKind.i64.wrap (8 * (q : Int)) = 8 * (q : Int) := IntWalk.i64_in _ (by omega)
  have w6 : IntKind.i64.wrap ((K : Int) + 4) = (K : Int) + 4 := IntWalk.i64_in _ (by omega)
  have w7 : IntKind.i64.wrap ((K : Int) + 4 + 8 * (q : Int)) = (U : Int) := by rw [show (K : Int) + 4 + 8 * (q : Int) = (U : Int) by omega]; exact IntWalk.i64_in _ (by omega)
  have w8 : IntKind.i64.wrap ((K : Int) + 2) = (K : Int) + 2 := IntWalk.i64_in _ (by omega)
  have hubz : (d.r.use : Int) < 65536 := by omega
  have hUz : (U : Int) ≤ 1010000 := by omega
  generalize d.used m = res at *
  generalize lget m (K + 2) 2 = hd at *
  generalize lget m U 4 = xh at *
  generalize lget m (U + 4) 4 = xl at *
  generalize (d.r.use + 1) % 65536 = ro at *
  have hroz : (ro : Int) < 65536 := by omega
  have H0 := hid h1
  have Hres := hid hres
  have Hn := hid hn
  have Hrl := hid hrl
  have Hbl := hid hbl
  have Hcn := hid hcn
  have E34 := hid (And.intro e3 (And.intro e4 (And.intro hubz hroz)))
  clear h1 hres hn hrl hbl hcn hkey fit ob ub pw hqs hua hK hU hU2 hq e3 e4 hubz hroz hro hm
  by_cases hz : hd = d.r.use
  · have d1 : ((hd : Int) == (d.r.use : Int)) = true := by rw [hz]; simp
    have hres := Hres.out
    rw [if_pos hz] at hres
    subst hres
    clear hz
    go_enter Try.func36, Try.ntmps36
    go_wp2
    go_quiet (fail)
    have H1 := hid (sat_dn.2 H0.out : SatL (w.drewN nq) _)
    clear H0 c0 c1 c2 c3 c4 c5 c6 w1 w2 w3
    generalize w.drewN nq = wA at *
    obtain ⟨c0, c1, c2, c3, c4, c5, c6⟩ := xdrv_cells H1.out
    have Q2 := hq2.out wA _ (H1.out.pull 4)
    go_wp2
    go_quiet (first | (go_at_call 43; (with_reducible exact Q2 _)))
    go_wp2
    go_ret3
    exact Ret.mk ⟨rfl, sat_XDrvR.2 ⟨_, _, rs, ⟨hch, hnd⟩, sat_dn.2 H1.out⟩⟩
  · have d1 : ((hd : Int) == (d.r.use : Int)) = false := by simp; omega
    have d1b : ¬ (hd : Int) = (d.r.use : Int) := by omega
    have hres := Hres.out
    rw [if_neg hz] at hres
    have Hres2 := hid hres
    clear hz hres Hres
    go_enter Try.func36, Try.ntmps36
    go_wp2
    go_quiet (fail)
    have H1 := hid (sat_dn.2 H0.out : SatL (w.drewN nq) _)
    clear H0 c0 c1 c2 c3 c4 c5 c6 w1 w2 w3
    generalize w.drewN nq = wA at *
    obtain ⟨c0, c1, c2, c3, c4, c5, c6⟩ := xdrv_cells H1.out
    have Q2 := hq2.out wA _ (H1.out.pull 4)
    go_wp2
    go_quiet (first | (go_at_call 43; (with_reducible exact Q2 _)))
    have H2 := hid (sat_dn.2 H1.out : SatL (wA.drewN nq) _)
    clear H1 Q2 c0 c1 c2 c3 c4 c5 c6 w8 d1 d1b hq2
    generalize wA.drewN nq = wB at *
    obtain ⟨c0, c1, c2, c3, c4, c5, c6⟩ := xdrv_cells H2.out
    go_wp2
    go_quiet (fail)
    have H3 := (sat_dn.2 H2.out : SatL (wB.drewN nq) _)
    clear H2 c0 c1 c2 c3 c4 c5 c6 w4 w5 w6 w7 e1 e2 hqn
    generalize wB.drewN nq = wC at *
    obtain ⟨c0, c1, c2, c3, c4, c5, c6⟩ := xdrv_cells H3
    have f5 := H3.free 5
    have k1 := qA.out _ _ (H3.pull 4)
    have k2 := qB.out _ _ (H3.pull 4)
    have H4 := hset.out _ _ H3
    have H5 := hid H4
    obtain ⟨e3, e4, hubz, hroz⟩ := E34.out
    clear H3 H4 hset qA qB hg
    go_wp2_with (first
      | (go_at_call 43; (with_reducible refine k1.mono ?_); rintro e w3 ⟨v, rfl, rfl, rfl⟩)
      | (go_at_call 43; (with_reducible refine k2.mono ?_); rintro e w3 ⟨v, rfl, rfl, rfl⟩))
    clear k1 k2 c0 c1 c2 c3 c4 c5 c6 f5 e3 e4 hubz hroz E34
    go_loopw [9] (fun i wr => ∃ j : Nat, j ≤ rs.length ∧ i = .int .i64 j ∧ (∀ t, t < j → ∀ s, rs[t]? = some s → ¬ s.k = (xh : Int)) ∧ SatL wr (cl db 89 (xdrvV mb o N c d.r.stepU (.slice (some ⟨bb, bo, none⟩) d.r.n bc) (.slice fa rs.length fc)).toArray :: Sl 4 (.slice (some ⟨bb, bo, none⟩) d.r.n bc) (d.busy.map Value.bool) :: ChL (.slice fa rs.length fc) rs :: big (fun r : Rf (List Nat) => NatsL r.v r.xs) rs :: SlB 5 (.slice (some ⟨mb, o, none⟩) N c) m :: L)) (fun i _ => rs.length - (intOf i).toNat)
    case atStart => exact ⟨0, by omega, rfl, fun t ht => by omega, H5.out⟩
    case round =>
      clear H5
      obtain ⟨j, hj, rfl, hno, hs⟩ := hrel
      obtain ⟨c3, c6, f6⟩ := hcl2.out _ _ hs
      have hrl := Hrl.out
      by_cases hlt : j < rs.length
      · obtain ⟨s, hs1⟩ : ∃ s, rs[j]? = some s := ⟨_, List.getElem?_eq_getElem hlt⟩
        obtain ⟨fb, fo, rfl⟩ : ∃ fb fo, fa = some ⟨fb, fo, none⟩ := by
          rcases SlK.form (hs.pull 2 : SatL wr (SlK _ _ _ _ _ :: _)) with ⟨_, h0, _⟩ | ⟨b, off, cc, hv, _⟩
          · omega
          · cases hv; exact ⟨_, _, rfl⟩
        have hrow := hid (fun (w' : World) (X : List HP) (h : SatL w' (ChL (.slice (some ⟨fb, fo, none⟩) rs.length fc) rs :: X)) => (⟨SlK.cell (h : SatL w' (SlK _ _ _ _ _ :: _)) (chRow_get hs1).1, by have := SlK.cell (h : SatL w' (SlK _ _ _ _ _ :: _)) (chRow_get hs1).2; rwa [← Nat.add_assoc] at this⟩ : w'.cell? ⟨fb, fo + j * 2, none⟩ = some (.int .i64 s.k) ∧ w'.cell? ⟨fb, fo + j * 2 + 1, none⟩ = some s.v))
        obtain ⟨ck, cv⟩ := hrow.out _ _ (hs.pull 2)
        have hjz : (j : Int) < rs.length := by omega
        by_cases hk : s.k = (xh : Int)
        · obtain ⟨kk, vv, xs⟩ := s
          simp only at hk ck cv hrow
          subst hk
          have hgx := ofget_at hs1 hno
          simp only at hgx
          have hres := Hres2.out
          rw [hch, hgx] at hres
          simp only at hres
          have h6 := big_cons.1 (big_perm (erase_perm hs1) (hs.pull 3))
          simp only at h6
          obtain ⟨xa, xc, rfl, x1, x2⟩ := Sl.valn (h6 : SatL wr (Sl _ _ _ :: _)) (m := xs.length) (by unfold natV; rw [List.length_map])
          have h7 := h6.bring [3, 0, 1, 2, 4, 5]
          have hxin := hid (Hcn.out _ _ (by rw [hch]; exact hgx))
          have Hres3 := hid hres
          have HV := hid (big_vals (hs.pull 3))
          have HE := hid (And.intro (erase_get hs1 hnd) (erase_nodup hs1 hnd).1)
          clear hs h6 hres hgx hs1 hno
          go_wp2
          go_loopw [10] (fun i wr => ∃ t : Nat, t ≤ xs.length ∧ i = .int .i64 t ∧ SatL wr (Sl 4 (.slice (some ⟨bb, bo, none⟩) d.r.n bc) ((unbusy d.busy (xs.take t)).map Value.bool) :: NatsL (.slice xa xs.length xc) xs :: big (fun r : Rf (List Nat) => NatsL r.v r.xs) (rs.take j ++ rs.drop (j + 1)) :: cl db 89 (xdrvV mb o N c d.r.stepU (.slice (some ⟨bb, bo, none⟩) d.r.n bc) (.slice (some ⟨fb, fo, none⟩) rs.length fc)).toArray :: ChL (.slice (some ⟨fb, fo, none⟩) rs.length fc) rs :: SlB 5 (.slice (some ⟨mb, o, none⟩) N c) m :: L)) (fun i _ => xs.length - (intOf i).toNat)
          case atStart => exact ⟨0, by omega, rfl, h7⟩
          case round =>
            clear h7 ck cv c3 c6 f6
            obtain ⟨t, ht, rfl, hs⟩ := hrel
            obtain ⟨c3, c6, f6⟩ := hcl2.out _ _ (hs.pull 3)
            obtain ⟨ck, cv⟩ := hrow.out _ _ (hs.pull 4)
            by_cases htl : t < xs.length
            · obtain ⟨ci, hcj⟩ : ∃ ci, xs[t]? = some ci := ⟨_, List.getElem?_eq_getElem htl⟩
              have hin2 := hxin.out _ (List.mem_of_getElem? hcj)
              obtain ⟨b1, o1, rfl⟩ := Sl.addr (hs.pull 1 : SatL wr (Sl _ _ _ :: _)) (by omega)
              have hsd := sat_drew.2 hs
              have ci1 := Sl.cell (hsd.pull 1 : SatL wr.drew (Sl _ _ _ :: _)) (i := t) (x := .int .i64 (ci : Nat)) (by unfold natV; rw [List.getElem?_map, hcj]; rfl)
              have hlu : ((unbusy d.busy (xs.take t)).map Value.bool).length = d.r.n := by rw [List.length_map, unbusy_len]; exact Hbl.out
              have hset2 := Sl.set hsd (i := ci) (by rw [hlu]; exact hin2) (.bool false)
              rw [← List.map_set, ← unbusy_snoc, ← take_nat hcj] at hset2
              have fr := Sl.free hsd (bo + ci)
              obtain ⟨ub, cu⟩ : ∃ u, wr.drew.cell? ⟨bb, bo + ci, none⟩ = some u := ⟨_, Sl.cell hsd (List.getElem?_eq_getElem (show ci < ((unbusy d.busy (xs.take t)).map Value.bool).length by rw [hlu]; exact hin2))⟩
              have htz : (t : Int) < xs.length := by omega
              have hiz : (ci : Int) < d.r.n := by omega
              have S15 : wr.drew.cell? ⟨db, 3, none⟩ = some (.slice (some ⟨bb, bo, none⟩) d.r.n bc) ∧ wr.drew.cell? ⟨db, 6, none⟩ = some (.slice (some ⟨fb, fo, none⟩) rs.length fc) ∧ wr.drew.cell? ⟨fb, fo + j * 2 + 1, none⟩ = some (.slice (some ⟨b1, o1, none⟩) xs.length xc) ∧ wr.drew.cell? ⟨b1, o1 + t, none⟩ = some (.int .i64 (ci : Nat)) := ⟨(hcl2.out _ _ (hsd.pull 3)).1, (hcl2.out _ _ (hsd.pull 3)).2.1, (hrow.out _ _ (hsd.pull 4)).2, ci1⟩
              have Hset := hid hset2
              clear hs hsd hset2 hcj hlu ci1
              go_upto_region 15 with fail
              refine GoE.start (fun w' => w'.cell? ⟨db, 3, none⟩ = some (.slice (some ⟨bb, bo, none⟩) d.r.n bc) ∧ w'.cell? ⟨db, 6, none⟩ = some (.slice (some ⟨fb, fo, none⟩) rs.length fc) ∧ w'.cell? ⟨fb, fo + j * 2 + 1, none⟩ = some (.slice (some ⟨b1, o1, none⟩) xs.length xc) ∧ w'.cell? ⟨b1, o1 + t, none⟩ = some (.int .i64 (ci : Nat))) 16 17 rfl (by kernel_rfl) ?_
              refine GoE.take (i := 0) (v := ?_) rfl (by decide) (by kernel_rfl) (by kernel_rfl) (by kernel_rfl) (by kernel_rfl) (fun _ _ _ h => h) (by rfl) ?_ (by assumption) ?_
              rotate_left
              · intro w hSw; (try dsimp only at hSw); go_simp; try (with_reducible rfl)
              try simp only [Act.put, List.setIfInBounds_toArray, List.set_cons_zero, List.set_cons_succ]
              refine GoE.take (i := 1) (v := ?_) rfl (by decide) (by kernel_rfl) (by kernel_rfl) (by kernel_rfl) (by kernel_rfl) (fun _ _ _ h => h) (by rfl) ?_ (by assumption) ?_
              rotate_left
              · intro w hSw; (try dsimp only at hSw); go_simp; try (with_reducible rfl)
              try simp only [Act.put, List.setIfInBounds_toArray, List.set_cons_zero, List.set_cons_succ]
              refine GoE.take (i := 2) (v := ?_) rfl (by decide) (by kernel_rfl) (by kernel_rfl) (by kernel_rfl) (by kernel_rfl) (fun _ _ _ h => h) (by rfl) ?_ (by assumption) ?_
              rotate_left
              · intro w hSw; (try dsimp only at hSw); go_simp; try (with_reducible rfl)
              try simp only [Act.put, List.setIfInBounds_toArray, List.set_cons_zero, List.set_cons_succ]
              refine GoE.take (i := 3) (v := ?_) rfl (by decide) (by kernel_rfl) (by kernel_rfl) (by kernel_rfl) (by kernel_rfl) (fun _ _ _ h => h) (by rfl) ?_ (by assumption) ?_
              rotate_left
              · intro w hSw; (try dsimp only at hSw); go_simp; try (with_reducible rfl)
              try simp only [Act.put, List.setIfInBounds_toArray, List.set_cons_zero, List.set_cons_succ]
              refine GoE.take (i := 4) (v := ?_) rfl (by decide) (by kernel_rfl) (by kernel_rfl) (by kernel_rfl) (by kernel_rfl) (fun _ _ _ h => h) (by rfl) ?_ (by assumption) ?_
              rotate_left
              · intro w hSw; (try dsimp only at hSw); go_simp; try (with_reducible rfl)
              try simp only [Act.put, List.setIfInBounds_toArray, List.set_cons_zero, List.set_cons_succ]
              refine GoE.take (i := 5) (v := ?_) rfl (by decide) (by kernel_rfl) (by kernel_rfl) (by kernel_rfl) (by kernel_rfl) (fun _ _ _ h => h) (by rfl) ?_ (by assumption) ?_
              rotate_left
              · intro w hSw; (try dsimp only at hSw); go_simp; try (with_reducible rfl)
              try simp only [Act.put, List.setIfInBounds_toArray, List.set_cons_zero, List.set_cons_succ]
              refine GoE.take (i := 6) (v := ?_) rfl (by decide) (by kernel_rfl) (by kernel_rfl) (by kernel_rfl) (by kernel_rfl) (fun _ _ _ h => h) (by rfl) ?_ (by assumption) ?_
              rotate_left
              · intro w hSw; (try dsimp only at hSw); go_simp; try (with_reducible rfl)
              try simp only [Act.put, List.setIfInBounds_toArray, List.set_cons_zero, List.set_cons_succ]
              refine GoE.take (i := 7) (v := ?_) rfl (by decide) (by kernel_rfl) (by kernel_rfl) (by kernel_rfl) (by kernel_rfl) (fun _ _ _ h => h) (by rfl) ?_ (by assumption) ?_
              rotate_left
              · intro w hSw; (try dsimp only at hSw); go_simp; try (with_reducible rfl)
              try simp only [Act.put, List.setIfInBounds_toArray, List.set_cons_zero, List.set_cons_succ]
              refine GoE.take (i := 8) (v := ?_) rfl (by decide) (by kernel_rfl) (by kernel_rfl) (by kernel_rfl) (by kernel_rfl) (fun _ _ _ h => h) (by rfl) ?_ (by assumption) ?_
              rotate_left
              · intro w hSw; (try dsimp only at hSw); go_simp; try (with_reducible rfl)
              try simp only [Act.put, List.setIfInBounds_toArray, List.set_cons_zero, List.set_cons_succ]
              refine GoE.take (i := 9) (v := ?_) rfl (by decide) (by kernel_rfl) (by kernel_rfl) (by kernel_rfl) (by kernel_rfl) (fun _ _ _ h => h) (by rfl) ?_ (by assumption) ?_
              rotate_left
              · intro w hSw; (try dsimp only at hSw); go_simp; try (with_reducible rfl)
              try simp only [Act.put, List.setIfInBounds_toArray, List.set_cons_zero, List.set_cons_succ]
              refine GoE.take (i := 10) (v := ?_) rfl (by decide) (by kernel_rfl) (by kernel_rfl) (by kernel_rfl) (by kernel_rfl) (fun _ _ _ h => h) (by rfl) ?_ (by assumption) ?_
              rotate_left
              · intro w hSw; (try dsimp only at hSw); go_simp; try (with_reducible rfl)
              try simp only [Act.put, List.setIfInBounds_toArray, List.set_cons_zero, List.set_cons_succ]
              refine GoE.take (i := 11) (v := ?_) rfl (by decide) (by kernel_rfl) (by kernel_rfl) (by kernel_rfl) (by kernel_rfl) (fun _ _ _ h => h) (by rfl) ?_ (by assumption) ?_
              rotate_left
              · intro w hSw; (try dsimp only at hSw); go_simp; try (with_reducible rfl)
              try simp only [Act.put, List.setIfInBounds_toArray, List.set_cons_zero, List.set_cons_succ]
              refine GoE.take (i := 12) (v := ?_) rfl (by decide) (by kernel_rfl) (by kernel_rfl) (by kernel_rfl) (by kernel_rfl) (fun _ _ _ h => h) (by rfl) ?_ (by assumption) ?_
              rotate_left
              · intro w hSw; (try dsimp only at hSw); go_simp; try (with_reducible rfl)
              try simp only [Act.put, List.setIfInBounds_toArray, List.set_cons_zero, List.set_cons_succ]
              refine GoE.take (i := 13) (v := ?_) rfl (by decide) (by kernel_rfl) (by kernel_rfl) (by kernel_rfl) (by kernel_rfl) (fun _ _ _ h => h) (by rfl) ?_ (by assumption) ?_
              rotate_left
              · intro w hSw; (try dsimp only at hSw); go_simp; try (with_reducible rfl)
              try simp only [Act.put, List.setIfInBounds_toArray, List.set_cons_zero, List.set_cons_succ]
              refine GoE.take (i := 14) (v := ?_) rfl (by decide) (by kernel_rfl) (by kernel_rfl) (by kernel_rfl) (by kernel_rfl) (fun _ _ _ h => h) (by rfl) ?_ (by assumption) ?_
              rotate_left
              · intro w hSw; (try dsimp only at hSw); go_simp; try (with_reducible rfl)
              try simp only [Act.put, List.setIfInBounds_toArray, List.set_cons_zero, List.set_cons_succ]
              refine GoE.take (i := 15) (v := ?_) rfl (by decide) (by kernel_rfl) (by kernel_rfl) (by kernel_rfl) (by kernel_rfl) (fun _ _ _ h => h) (by rfl) ?_ (by assumption) ?_
              rotate_left
              · intro w hSw; (try dsimp only at hSw); go_simp; try (with_reducible rfl)
              try simp only [Act.put, List.setIfInBounds_toArray, List.set_cons_zero, List.set_cons_succ]
              refine GoE.one (i := 16) rfl (by kernel_rfl) (fun K hK => ?_)
              go_simp
              refine hK.out _ _ (fun h => absurd rfl h) ?_
              clear hK K
              try simp only [Act.put, List.setIfInBounds_toArray, List.set_cons_zero, List.set_cons_succ]
              refine GoE.done (by kernel_rfl) ?_
              go_wp2
              go_roundw
              case rel => exact ⟨t + 1, by omega, by go_num, by exact Hset.out⟩
              case measure => simp [intOf]; omega
            · obtain rfl : t = xs.length := by omega
              rw [List.take_length] at hs
              have hKn := SlK_nil (T := 95) (k := 2) hs
              have src1 := SrcOk.front (c := fc) elem_chain.under (hs.pull 4 : SatL wr (SlK _ _ _ _ _ :: _)) (q := j) (by omega)
              have hone1 := hid (fun y (hy : y ∈ (chRow rs).take (j * 2)) => HV.out y (List.mem_of_mem_take hy))
              have hone2 := hid (fun y (hy : y ∈ (chRow rs).drop ((j + 1) * 2)) => HV.out y (List.mem_of_mem_drop hy))
              have b1 : (0 + j) * 32 ≤ 140737488355328 := by omega
              have b2 : 0 + j ≤ maxLen := by unfold maxLen; omega
              have b3 : (0 + j + (rs.length - (j + 1))) * 32 ≤ 140737488355328 := by omega
              have b4 : 0 + j + (rs.length - (j + 1)) ≤ maxLen := by unfold maxLen; omega
              by_cases hfc : fc = j + 1
              · have hl1 : rs.length = j + 1 := by omega
                have hsrcZ := hid (fun (w' : World) => (SrcOk.none0 (w := w') (k := 2) (a := some ⟨fb, fo, none⟩) (c := 0) elem_chain.under (by simp) : SrcOk Try.prog 87 2 w' (.slice (some ⟨fb, fo, none⟩) 0 0) 0 []))
                have hj1 : (j : Int) + 1 ≤ rs.length := by omega
                have hjN : j + 1 ≤ rs.length := by omega
                have b5 : (0 + j + 0) * 32 ≤ 140737488355328 := by omega
                have b6 : 0 + j + 0 ≤ maxLen := by unfold maxLen; omega
                have z1 : rs.length - (j + 1) = 0 := by omega
                have z2 : fc - (j + 1) = 0 := by omega
                have hz3 : ((rs.length : Int) - ((j : Int) + 1)).toNat = 0 := by omega
                have hz4 : ((fc : Int) - ((j : Int) + 1)).toNat = 0 := by omega
                have HR := hid (show 0 + j + 0 = (rs.take j ++ rs.drop (j + 1)).length ∧ [] ++ (chRow rs).take (j * 2) ++ [] = chRow (rs.take j ++ rs.drop (j + 1)) from ⟨by rw [List.length_append, List.length_take, List.length_drop]; omega, by rw [chRow_append, chRow_take, List.drop_eq_nil_iff.2 (by omega)]; rfl⟩)
                have src1 := SrcOk.front (c := j + 1) elem_chain.under (hs.pull 4 : SatL wr (SlK _ _ _ _ _ :: _)) (q := j) (by omega)
                clear hs hl1
                go_wp2_with (first
                  | (at_builtin; refine wpList_append_sl rfl (.tmp 118) (.tmp 124) rfl elem_chain rfl hKn rfl src1 hone1.out b1 b2 ?_; intro v5 w5 h5 _; obtain ⟨_, d6, g6⟩ := hcl2.out _ _ (h5.pull 4))
                  | (at_builtin; refine wpList_append_sl rfl (.tmp 127) (.tmp 134) rfl elem_chain rfl h5 rfl (hsrcZ.out _) (by simp) b5 b6 ?_; intro v6 w6 h6 _; obtain ⟨_, d7, g7⟩ := hcl2.out _ _ (h6.pull 4); obtain ⟨va, vn, vc, rfl⟩ := SlK.val h6))
                go_ret3
                rw [HR.out.1, HR.out.2] at h6
                have h8 := SatL.set (h6.pull 4) (i := 6) (.slice va vn vc)
                have h9 := SatL.tail (SatL.tail (h8.bring [3, 5, 0, 2, 1, 4, 6]))
                have hr3 := Hres3.out
                subst hr3
                exact Ret.mk ⟨rfl, sat_XDrvR.2 ⟨_, .slice va vn vc, rs.take j ++ rs.drop (j + 1), ⟨HE.out.1.symm, HE.out.2⟩, h9⟩⟩
              have hsrc2 := hid (fun (w' : World) (X : List HP) (h : SatL w' (ChL (.slice (some ⟨fb, fo, none⟩) rs.length fc) rs :: X)) => SrcOk.behind elem_chain.under (h : SatL w' (SlK _ _ _ _ _ :: _)) (q := j + 1) (by omega) hfc)
              clear hs
              have hj1 : (j : Int) + 1 ≤ rs.length := by omega
              have hjN : j + 1 ≤ rs.length := by omega
              have HR := hid (show 0 + j + (rs.length - (j + 1)) = (rs.take j ++ rs.drop (j + 1)).length ∧ [] ++ (chRow rs).take (j * 2) ++ (chRow rs).drop ((j + 1) * 2) = chRow (rs.take j ++ rs.drop (j + 1)) from ⟨by rw [List.length_append, List.length_take, List.length_drop]; omega, by rw [chRow_append, chRow_take, chRow_drop]; rfl⟩)
              go_wp2_with (first
                | (at_builtin; refine wpList_append_sl rfl (.tmp 118) (.tmp 124) rfl elem_chain rfl hKn rfl src1 hone1.out b1 b2 ?_; intro v5 w5 h5 _; obtain ⟨_, d6, g6⟩ := hcl2.out _ _ (h5.pull 4); have src2 := hsrc2.out _ _ (h5.pull 5))
                | (at_builtin; refine wpList_append_sl rfl (.tmp 127) (.tmp 134) rfl elem_chain rfl h5 rfl src2 hone2.out b3 b4 ?_; intro v6 w6 h6 _; obtain ⟨_, d7, g7⟩ := hcl2.out _ _ (h6.pull 4); obtain ⟨va, vn, vc, rfl⟩ := SlK.val h6))
              go_ret3
              rw [HR.out.1, HR.out.2] at h6
              have h8 := SatL.set (h6.pull 4) (i := 6) (.slice va vn vc)
              have h9 := SatL.tail (SatL.tail (h8.bring [3, 5, 0, 2, 1, 4, 6]))
              have hr3 := Hres3.out
              subst hr3
              exact Ret.mk ⟨rfl, sat_XDrvR.2 ⟨_, .slice va vn vc, rs.take j ++ rs.drop (j + 1), ⟨HE.out.1.symm, HE.out.2⟩, h9⟩⟩
        · have hno2 : ∀ t, t < j + 1 → ∀ s, rs[t]? = some s → ¬ s.k = (xh : Int) := by
            intro t ht s2 hs2
            by_cases e : t = j
            · subst e; rw [hs1] at hs2; cases hs2; exact hk
            · exact hno t (by omega) s2 hs2
          have Hno2 := hid hno2
          have Hs := hid hs
          clear hno hno2 hs1 hs hrow
          go_wp2
          go_roundw
          case rel => exact ⟨j + 1, by omega, by go_num, Hno2.out, Hs.out⟩
          case measure => simp [intOf]; omega
      · obtain rfl : j = rs.length := by omega
        have hres := Hres2.out
        rw [hch, ofget_no hno] at hres
        simp only at hres
        subst hres
        have Hs := hid hs
        clear hno hs
        go_wp2
        go_ret3
        exact Ret.mk ⟨rfl, sat_XDrvR.2 ⟨_, _, rs, ⟨rfl, hnd⟩, Hs.out⟩⟩
end
end Go.Proofs.Ytnniipeoahpkcaa
