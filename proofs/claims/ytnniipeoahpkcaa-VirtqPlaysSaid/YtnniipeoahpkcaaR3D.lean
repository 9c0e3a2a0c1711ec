/- The document's queue: Add. No condition beside the sizes that it names. -/
import Derived.Test.YtnniipeoahpkcaaR3O
import Derived.Deep.CutBlock
import Derived.Deep.CutRange
namespace Go.Proofs.Ytnniipeoahpkcaa
set_option linter.unusedVariables false
set_option linter.unusedSimpArgs false
open Go.RowKit
section
variable {w : World} {L : List HP} {db mb o N c : Nat} {d : Dr} {m : List UInt8}
set_option maxRecDepth 100000 in
set_option maxHeartbeats 8000000 in
theorem refadd_ok {a : Option Addr} {cc : Nat} {l : List Bf} (ok : DrOk d m.length) (own : Own d) (hm : m.length ≤ 1000000) (h : SatL w (XDrvR db mb o N c d :: SlB 5 (.slice (some ⟨mb, o, none⟩) N c) m :: L)) (hB : ∀ x ∈ l, x.addr ≤ 9223372036854775807) (g : Gives L (BRow a l)) :
    Calls Try.prog 32 #[.pointer (some ⟨db, 0, none⟩), .slice a l.length cc] w (Ret fun v w' => v = .tuple #[.int .i64 (d.add m l).h, .int .i64 (d.add m l).e] ∧ SatL w' (XDrvR db mb o N c (d.add m l).d :: SlB 5 (.slice (some ⟨mb, o, none⟩) N c) (d.add m l).m :: L)) := by
  have hres : d.add m l = if l.length = 0 ∨ l.any Bf.bad = true then ⟨0, 1, d, m⟩ else if free d.busy < l.length then ⟨0, 7, d, m⟩ else
    ⟨(chainOf d.busy l.length).getD 0 0, 0, d.put (chainOf d.busy l.length), d.putM m (chainOf d.busy l.length) l⟩ := rfl
  generalize d.add m l = res at *
  by_cases hl0 : l.length = 0
  · rw [if_pos (.inl hl0)] at hres
    subst hres
    rw [hl0]
    clear hl0 g ok own
    go_enter Try.func32, Try.ntmps32
    go_wp2
    go_ret2
    exact Ret.mk ⟨rfl, h⟩
  have hlp : 0 < l.length := by omega
  obtain ⟨ab, ao, rfl, hx⟩ := (g w h.tail.tail).2 hlp
  clear hx
  have hlm := (g w h.tail.tail).1
  have hrow := hid (fun (w' : World) (h' : SatL w' L) => (by
    obtain ⟨_, hc⟩ := g w' h'
    obtain ⟨b', o', e, hc⟩ := hc hlp
    cases e
    exact hc : ∀ i x, l[i]? = some x → w'.cell? ⟨ab, ao + i * 3, none⟩ = some (.int .i64 x.addr) ∧ w'.cell? ⟨ab, ao + i * 3 + 1, none⟩ = some (.int .i64 x.len) ∧ w'.cell? ⟨ab, ao + i * 3 + 2, none⟩ = some (.bool x.wr)))
  have hfr := hid (fun (w' : World) (X : List HP) (h : SatL w' (XDrvR db mb o N c d :: X)) => reffree_eq ok h)
  have Hres := hid hres
  have Ok := hid ok
  have Ow := hid own
  have H0 := hid h
  have hlz : ¬ (l.length : Int) = 0 := by omega
  clear g hres ok own h
  go_enter Try.func32, Try.ntmps32
  go_wp2
  go_loopw [6] (fun i wr => ∃ j : Nat, j ≤ l.length ∧ i = .int .i64 j ∧ (∀ q x, q < j → l[q]? = some x → x.bad = false) ∧ SatL wr (XDrvR db mb o N c d :: SlB 5 (.slice (some ⟨mb, o, none⟩) N c) m :: L)) (fun i _ => l.length - (intOf i).toNat)
  case atStart => exact ⟨0, by omega, rfl, fun q x hq => by omega, H0.out⟩
  case round =>
    clear H0
    obtain ⟨j, hj, rfl, hgood, hs⟩ := hrel
    have Hgood := hid hgood
    clear hgood
    by_cases hlt : j < l.length
    · obtain ⟨x, hx⟩ : ∃ x, l[j]? = some x := ⟨_, List.getElem?_eq_getElem hlt⟩
      obtain ⟨r0, r1, r2⟩ := hrow.out wr hs.tail.tail j x hx
      have hjz : (j : Int) < l.length := by omega
      have Hx := hid hx
      have Hs := hid hs
      clear hs hx r2
      have hbd : x.bad = (decide (x.addr < 0) || decide (x.len < 0) || decide (4294967295 < x.len)) := rfl
      by_cases hbad : x.bad = true
      · have hres := Hres.out
        rw [if_pos (.inr (bad_any Hx.out hbad))] at hres
        subst hres
        clear Hres Hgood
        rw [hbd] at hbad
        generalize x.addr = xa at *
        generalize x.len = xl at *
        clear hbd
        rcases Bool.or_eq_true_iff.1 hbad with hb | hb
        · rcases Bool.or_eq_true_iff.1 hb with hb | hb
          · have hb2 := of_decide_eq_true hb
            clear hb hbad
            go_wp2
            go_ret2
            exact Ret.mk ⟨rfl, Hs.out⟩
          · have hb2 := of_decide_eq_true hb
            clear hb hbad
            by_cases hb3 : xa < 0
            · go_wp2
              go_ret2
              exact Ret.mk ⟨rfl, Hs.out⟩
            · go_wp2
              go_ret2
              exact Ret.mk ⟨rfl, Hs.out⟩
        · have hb2 := of_decide_eq_true hb
          clear hb hbad
          have hb4 : ¬ xl < 0 := by omega
          have hb5 : (4294967296 : Int) ≤ xl := by omega
          by_cases hb3 : xa < 0
          · go_wp2
            go_ret2
            exact Ret.mk ⟨rfl, Hs.out⟩
          · go_wp2
            go_ret2
            exact Ret.mk ⟨rfl, Hs.out⟩
      · have hbf : x.bad = false := by simpa using hbad
        have Hg2 := hid (show ∀ q y, q < j + 1 → l[q]? = some y → y.bad = false from fun q y hq hy => by
          rcases Nat.lt_or_ge q j with h1 | h1
          · exact Hgood.out q y h1 hy
          · obtain rfl : q = j := by omega
            rw [Hx.out] at hy; cases hy; exact hbf)
        rw [hbd] at hbf
        simp only [Bool.or_eq_false_iff, decide_eq_false_iff_not] at hbf
        obtain ⟨⟨b1, b2⟩, b3⟩ := hbf
        have b5 : ¬ (4294967296 : Int) ≤ x.len := by omega
        clear hbad hbd Hgood Hx b3
        generalize x.addr = xa at *
        generalize x.len = xl at *
        go_wp2
        go_roundw
        case rel => exact ⟨j + 1, by omega, by go_num, Hg2.out, Hs.out⟩
        case measure => simp [intOf]; omega
    · obtain rfl : j = l.length := by omega
      have hany := bad_none Hgood.out
      have k1 := hfr.out wr _ hs
      by_cases hfull : free d.busy < l.length
      · have hres := Hres.out
        rw [if_neg (by rintro (h | h); exact hl0 h; rw [hany] at h; cases h), if_pos hfull] at hres
        subst hres
        have hfz : (free d.busy : Int) < l.length := by omega
        have Hs := hid hs
        clear Hres Hgood hany hs
        generalize free d.busy = fb at *
        go_wp2_with (first | (go_at_call 20; (with_reducible refine k1.mono ?_); rintro e w2 ⟨v, rfl, rfl, rfl⟩))
        go_ret2
        exact Ret.mk ⟨rfl, Hs.out⟩
      · have hres := Hres.out
        rw [if_neg (by rintro (h | h); exact hl0 h; rw [hany] at h; cases h), if_neg hfull] at hres
        have hfz : ¬ (free d.busy : Int) < l.length := by omega
        have Hres2 := hid hres
        have hbl := Ok.out.len
        have hn := pow2_le Ok.out.rg.pw
        have hff : (freeIdx d.busy d.r.n).length = free d.busy := by rw [← hbl, freeIdx_len _ (Nat.le_refl _), List.take_length]
        have hfb : free d.busy ≤ 256 := by have := free_le d.busy; omega
        obtain ⟨tv, fv, rs, ⟨hch, hnd⟩, h1⟩ := sat_XDrvR.1 hs
        obtain ⟨ba, bc, rfl, lb1, lb2⟩ := Sl.valn (SatL.pull h1 1 : SatL wr (Sl _ _ _ :: _)) (m := d.r.n) (by rw [List.length_map, hbl])
        obtain ⟨bb, bo, rfl⟩ := Sl.addr (SatL.pull h1 1 : SatL wr (Sl _ _ _ :: _)) (by omega)
        obtain ⟨fa, fc, rfl, f1, f2⟩ := SlK.valn (h1.pull 2 : SatL wr (SlK _ _ _ _ _ :: _))
        have hrl : rs.length ≤ d.r.n := chs_len hnd (fun r hr => by
          have : (ofget rs r.k).isSome = true := mem_rfm.1 (List.mem_map.2 ⟨(r.k, r.v), List.mem_map.2 ⟨r, hr, rfl⟩, rfl⟩)
          rw [← hch] at this
          obtain ⟨x, hx⟩ := Option.isSome_iff_exists.1 this
          exact Ow.out.key Ok.out _ _ hx)
        have hnone := Ow.out.fresh (k := l.length) (by omega) (by omega)
        have hcl := hid (fun (w' : World) (X : List HP) (h : SatL w' (cl db 89 (xdrvV mb o N c d.r (.slice (some ⟨bb, bo, none⟩) d.r.n bc) (.slice fa rs.length fc)).toArray :: X)) => xdrv_cells h)
        have HB := hid hB
        have hset := hid (fun (w' : World) (X : List HP) (M : List UInt8) (hM : M.length = m.length) (a k v : Nat) (hk : k ≤ 8) (hv : v < 9223372036854775808) (ha : a + k ≤ m.length) (h : SatL w' (SlB 5 (.slice (some ⟨mb, o, none⟩) N c) M :: X)) => refset_ok (a := a) hk hv (by rw [hM]; exact ha) (by rw [hM]; exact hm) h)
        have hgood := hid (fun q x (hq : l[q]? = some x) => Hgood.out q x (List.getElem?_eq_some_iff.1 hq).1 hq)
        have Hbl := hid hbl
        have Hn := hid hn
        have Hff := hid hff
        have Hfull := hid hfull
        have Hch := hid (And.intro hch (And.intro hnd hnone))
        have h2 := SlK_nil (T := 3) (k := 1) h1
        have h3 := (h2.alloc (.cells #[.int .i64 0, .slice none 0 0] 95) : SatL _ (cl _ _ _ :: _))
        have H1 := hid h3
        have hlb : l.length ≤ 256 := by omega
        have hnz2 : (d.r.n : Int) ≤ 256 := by omega
        clear hB Hres Hgood hany hs h1 h2 h3 hres hbl hff hn hfr hlt hj hch hnd hnone
        generalize free d.busy = fb at *
        go_upto_block 2 with (first | (go_at_call 20; (with_reducible refine k1.mono ?_); rintro e w2 ⟨v, rfl, rfl, rfl⟩))
        clear k1
        have H1b := hid (H1.out : SatL (wr.alloc (.cells #[.int .i64 0, .slice none 0 0] 95)) (cl wr.heap.size 95 #[.int .i64 0, .slice none 0 0] :: NatsL (.slice none 0 0) (freeIdx d.busy 0) :: cl db 89 (xdrvV mb o N c d.r (.slice (some ⟨bb, bo, none⟩) d.r.n bc) (.slice fa rs.length fc)).toArray :: Sl 4 (.slice (some ⟨bb, bo, none⟩) d.r.n bc) (d.busy.map Value.bool) :: ChL (.slice fa rs.length fc) rs :: big (fun r : Rf (List Nat) => NatsL r.v r.xs) rs :: SlB 5 (.slice (some ⟨mb, o, none⟩) N c) m :: L))
        clear H1
        obtain ⟨cb, hcb⟩ : ∃ cb, cb = wr.heap.size := ⟨_, rfl⟩
        rw [← hcb]
        have H1 := hid (by have := H1b.out; rw [← hcb] at this; exact this)
        clear H1b hcb
        have hcc := hid (fun (w' : World) (X : List HP) (h0 : Int) (lv : Value) (h : SatL w' (cl cb 95 #[.int .i64 h0, lv] :: X)) => (⟨h.cell (i := 0) rfl, h.cell (i := 1) rfl, h.free 0, h.free 1⟩ : w'.cell? ⟨cb, 0, none⟩ = some (.int .i64 h0) ∧ w'.cell? ⟨cb, 1, none⟩ = some lv ∧ w'.frozen? ⟨cb, 0, none⟩ = false ∧ w'.frozen? ⟨cb, 1, none⟩ = false))
        go_cut [8] from 50 to 79 (fun _ wx => ∃ (lb lo cap h0 : Nat), l.length ≤ cap ∧ cap ≤ 9223372036854775807 ∧ (chainOf d.busy l.length)[0]? = some h0 ∧ (chainOf d.busy l.length).length = l.length ∧ SatL wx (cl cb 95 #[.int .i64 0, .slice (some ⟨lb, lo, none⟩) l.length cap] :: NatsL (.slice (some ⟨lb, lo, none⟩) l.length cap) (chainOf d.busy l.length) :: cl db 89 (xdrvV mb o N c d.r (.slice (some ⟨bb, bo, none⟩) d.r.n bc) (.slice fa rs.length fc)).toArray :: Sl 4 (.slice (some ⟨bb, bo, none⟩) d.r.n bc) (d.busy.map Value.bool) :: ChL (.slice fa rs.length fc) rs :: big (fun r : Rf (List Nat) => NatsL r.v r.xs) rs :: SlB 5 (.slice (some ⟨mb, o, none⟩) N c) m :: L))
        case first =>
          go_wp2
          go_loopw [8] (fun i wr => ∃ (j : Nat) (lv : Value), j ≤ d.r.n ∧ i = .int .i64 j ∧ (freeIdx d.busy j).length ≤ l.length ∧ SatL wr (cl cb 95 #[.int .i64 0, lv] :: NatsL lv (freeIdx d.busy j) :: cl db 89 (xdrvV mb o N c d.r (.slice (some ⟨bb, bo, none⟩) d.r.n bc) (.slice fa rs.length fc)).toArray :: Sl 4 (.slice (some ⟨bb, bo, none⟩) d.r.n bc) (d.busy.map Value.bool) :: ChL (.slice fa rs.length fc) rs :: big (fun r : Rf (List Nat) => NatsL r.v r.xs) rs :: SlB 5 (.slice (some ⟨mb, o, none⟩) N c) m :: L)) (fun i _ => d.r.n - (intOf i).toNat)
          case atStart => exact ⟨0, _, by omega, rfl, by simp [freeIdx], H1.out⟩
          case round =>
            clear H1
            obtain ⟨j, lv, hj, rfl, hle, hs⟩ := hrel
            obtain ⟨ca, cap, rfl, lc1, lc2⟩ := Sl.valn (hs.pull 1 : SatL wr (Sl _ _ _ :: _)) (m := (freeIdx d.busy j).length) (by unfold natV; rw [List.length_map])
            have hfj := freeIdx_le (busy := d.busy) (i := j)
            obtain ⟨g0, g1, g2, g3⟩ := hcc.out _ _ _ _ hs
            obtain ⟨c0, c1, c2, c3, c4, c5, c6⟩ := hcl.out _ _ (hs.pull 2)
            by_cases hgo : j < d.r.n ∧ (freeIdx d.busy j).length < l.length
            · obtain ⟨hjn, hlt2⟩ := hgo
              obtain ⟨bj, hbj⟩ : ∃ bj, d.busy[j]? = some bj := ⟨_, List.getElem?_eq_getElem (by rw [Hbl.out]; exact hjn)⟩
              have cj := Sl.cell (hs.pull 3 : SatL wr (Sl _ _ _ :: _)) (i := j) (x := .bool bj) (by rw [List.getElem?_map, hbj]; rfl)
              have hsn := hid (freeIdx_snoc hbj)
              have hjz : (j : Int) < d.r.n := by omega
              have hl2z : ((freeIdx d.busy j).length : Int) < l.length := by omega
              have b1 : ((natV (freeIdx d.busy j)).length + 1) * 8 ≤ 140737488355328 := by unfold natV; rw [List.length_map]; omega
              have happ : natV (freeIdx d.busy j) ++ [Value.int .i64 (j : Int)] = natV (freeIdx d.busy j ++ [j]) := by unfold natV; rw [List.map_append]; rfl
              clear hbj c0 c1 c4 c5 c6
              generalize freeIdx d.busy j = fj at *
              cases bj with
              | true =>
                have Hs := hid hs
                clear hs b1 happ
                go_wp2
                go_roundw
                case rel => exact ⟨j + 1, _, by omega, by go_num, by rw [hsn.out, if_pos rfl, List.append_nil]; exact hle, by rw [hsn.out, if_pos rfl, List.append_nil]; exact Hs.out⟩
                case measure => simp [intOf]; omega
              | false =>
                have Happ := hid happ
                have hs' := hs.pull 1
                clear happ hs
                go_wp2_with (first
                  | (at_builtin; refine wpList_push_sl rfl (.tmp 75) (.tmp 77) rfl elem_int (by decide) rfl hs' rfl rfl b1 ?_; intro v' w' h2; rw [Happ.out] at h2; obtain ⟨ea, ec, rfl, ec1, ec2⟩ := Sl.valn h2 (m := fj.length + 1) (by unfold natV; rw [List.length_map, List.length_append]; rfl); obtain ⟨y0, y1, y2, y3⟩ := hcc.out _ _ _ _ (SatL.swap h2); have h3 := (SatL.swap h2).set (i := 1) (.slice ea (fj.length + 1) ec)))
                go_roundw
                case rel => exact ⟨j + 1, _, by omega, by go_num, by rw [hsn.out, List.length_append]; simp; omega, by rw [hsn.out]; exact h3⟩
                case measure => simp [intOf]; omega
            · have hleq : (freeIdx d.busy j).length = l.length := by
                by_cases h1 : j < d.r.n
                · have := fun h2 => hgo ⟨h1, h2⟩
                  omega
                · obtain rfl : j = d.r.n := by omega
                  have := Hff.out; have := Hfull.out; omega
              have hchn : freeIdx d.busy j = chainOf d.busy l.length := by
                unfold chainOf; rw [← hleq, Hbl.out]; exact freeIdx_pre hj
              rw [hleq] at hs lc1 g1
              rw [hchn] at hs hleq
              obtain ⟨h0, hh0⟩ : ∃ h0, (chainOf d.busy l.length)[0]? = some h0 := ⟨_, List.getElem?_eq_getElem (by rw [hleq]; exact hlp)⟩
              obtain ⟨lb, lo, rfl⟩ := Sl.addr (hs.pull 1 : SatL wr (Sl _ _ _ :: _)) hlp
              have Hs := hid hs
              have Hh := hid (And.intro hh0 hleq)
              clear hs hh0 hleq hchn hfj hle c0 c1 c3 c4 c5 c6 g0 g2 g3
              by_cases hjn : j < d.r.n
              · have hjz : (j : Int) < d.r.n := by omega
                clear hgo
                go_wp2_with fail
                go_meet
                exact ⟨lb, lo, cap, h0, lc1, lc2, Hh.out.1, Hh.out.2, Hs.out⟩
              · have hjz : ¬ (j : Int) < d.r.n := by omega
                clear hgo
                go_wp2_with fail
                go_meet
                exact ⟨lb, lo, cap, h0, lc1, lc2, Hh.out.1, Hh.out.2, Hs.out⟩
        case rest =>
        clear H1
        obtain ⟨lb, lo, cap, h0, lc1, lc2, hh0, hleq, hs⟩ := hcut
        have hcm := hid (fun i (hi : i ∈ chainOf d.busy l.length) => (by rw [← Hbl.out]; exact chainOf_lt hi : i < d.r.n))
        have hg0 : (chainOf d.busy l.length).getD 0 0 = h0 := by rw [List.getD_eq_getElem?_getD, hh0]; rfl
        have hres := Hres2.out
        obtain ⟨hch, hnd, hnone⟩ := Hch.out
        rw [hg0] at hres hnone
        have Hch2 := hid (And.intro hch (And.intro hnd hnone))
        have Hres3 := hid hres
        have Hh0 := hid (And.intro hh0 hg0)
        have Hleq := hid hleq
        have cl0 := Sl.cell (hs.pull 1 : SatL wc (Sl _ _ _ :: _)) (i := 0) (x := .int .i64 (h0 : Nat)) (by unfold natV; rw [List.getElem?_map, hh0]; rfl)
        rw [Nat.add_zero] at cl0
        obtain ⟨g0, g1, g2, g3⟩ := hcc.out _ _ _ _ hs
        have h3 := hs.set (i := 0) (.int .i64 (h0 : Nat))
        have h4 : SatL (wc.setCell ⟨cb, 0, none⟩ (.int .i64 (h0 : Nat))) (cl cb 95 #[.int .i64 (h0 : Nat), .slice (some ⟨lb, lo, none⟩) l.length cap] :: NatsL (.slice (some ⟨lb, lo, none⟩) l.length cap) (chainOf d.busy l.length) :: cl db 89 (xdrvV mb o N c d.r (.slice (some ⟨bb, bo, none⟩) d.r.n bc) (.slice fa rs.length fc)).toArray :: Sl 4 (.slice (some ⟨bb, bo, none⟩) d.r.n bc) (d.busy.map Value.bool) :: ChL (.slice fa rs.length fc) rs :: big (fun r : Rf (List Nat) => NatsL r.v r.xs) rs :: SlB 5 (.slice (some ⟨mb, o, none⟩) N c) m :: L) := h3
        have h5 : SatL (wc.setCell ⟨cb, 0, none⟩ (.int .i64 (h0 : Nat))) (SlB 5 (.slice (some ⟨mb, o, none⟩) N c) (descs d.r.base (chainOf d.busy l.length) l m 0) :: cl db 89 (xdrvV mb o N c d.r (.slice (some ⟨bb, bo, none⟩) d.r.n bc) (.slice fa rs.length fc)).toArray :: Sl 4 (.slice (some ⟨bb, bo, none⟩) d.r.n bc) ((setbusy d.busy ((chainOf d.busy l.length).take 0)).map Value.bool) :: NatsL (.slice (some ⟨lb, lo, none⟩) l.length cap) (chainOf d.busy l.length) :: cl cb 95 #[.int .i64 (h0 : Nat), .slice (some ⟨lb, lo, none⟩) l.length cap] :: ChL (.slice fa rs.length fc) rs :: big (fun r : Rf (List Nat) => NatsL r.v r.xs) rs :: L) := h4.bring [6, 2, 3, 1, 0, 4, 5]
        have H5 := hid h5
        have hlpz : (0 : Int) < l.length := by omega
        clear hs h3 h4 h5 hleq Hff Hfull Hch Hres2 hres hch hnd hnone hh0 hg0
        generalize chainOf d.busy l.length = ch at *
        go_wp2
        go_loopw [9] (fun i wr => ∃ k : Nat, k ≤ l.length ∧ i = .int .i64 k ∧ SatL wr (SlB 5 (.slice (some ⟨mb, o, none⟩) N c) (descs d.r.base ch l m k) :: cl db 89 (xdrvV mb o N c d.r (.slice (some ⟨bb, bo, none⟩) d.r.n bc) (.slice fa rs.length fc)).toArray :: Sl 4 (.slice (some ⟨bb, bo, none⟩) d.r.n bc) ((setbusy d.busy (ch.take k)).map Value.bool) :: NatsL (.slice (some ⟨lb, lo, none⟩) l.length cap) ch :: cl cb 95 #[.int .i64 (h0 : Nat), .slice (some ⟨lb, lo, none⟩) l.length cap] :: ChL (.slice fa rs.length fc) rs :: big (fun r : Rf (List Nat) => NatsL r.v r.xs) rs :: L)) (fun i _ => l.length - (intOf i).toNat)
        case atStart => exact ⟨0, by omega, rfl, H5.out⟩
        case round =>
          clear H5 g0 g1 g2 g3 cl0
          obtain ⟨k, hk, rfl, hs⟩ := hrel
          by_cases hlt : k < l.length
          · obtain ⟨x, hx⟩ : ∃ x, l[k]? = some x := ⟨_, List.getElem?_eq_getElem hlt⟩
            obtain ⟨ck, hck⟩ : ∃ ck, ch[k]? = some ck := ⟨_, List.getElem?_eq_getElem (by rw [Hleq.out]; exact hlt)⟩
            have hxb := hgood.out k x hx
            have hckn : ck < d.r.n := hcm.out ck (List.mem_of_getElem? hck)
            have hds : descs d.r.base ch l m (k + 1) = descM (descs d.r.base ch l m k) d.r.base ck x (flagOf x (decide (k + 1 < l.length))) (if k + 1 < l.length then ch.getD (k + 1) 0 else 0) := by
              show descM _ _ _ _ _ _ = _
              rw [List.getD_eq_getElem?_getD, hck, List.getD_eq_getElem?_getD, hx]; rfl
            have hsb : setbusy d.busy (ch.take (k + 1)) = (setbusy d.busy (ch.take k)).set ck true := by rw [take_nat hck, setbusy_snoc]
            have hml : (descs d.r.base ch l m k).length = m.length := descs_len (n := d.r.n) (by have := Hn.out; omega) hcm.out Ok.out.rg.fit k
            have hbl : (setbusy d.busy (ch.take k)).length = d.r.n := by rw [setbusy_len]; exact Hbl.out
            obtain ⟨nx, hnx⟩ : ∃ nx, nx = if k + 1 < l.length then ch.getD (k + 1) 0 else 0 := ⟨_, rfl⟩
            have hnx2 : k + 1 < l.length → ch[k + 1]? = some nx := fun h => by
              rw [if_pos h] at hnx; rw [hnx, List.getD_eq_getElem?_getD]
              rw [List.getElem?_eq_getElem (by rw [Hleq.out]; exact h)]; rfl
            have hnx3 : nx < 65536 := by
              by_cases h : k + 1 < l.length
              · have := hcm.out nx (List.mem_of_getElem? (hnx2 h)); have := Hn.out; omega
              · rw [if_neg h] at hnx; omega
            rw [← hnx] at hds
            obtain ⟨fl, hfl⟩ : ∃ fl, fl = flagOf x (decide (k + 1 < l.length)) := ⟨_, rfl⟩
            have hfl2 : fl = (if k + 1 < l.length then 1 else 0) + (if x.wr then 2 else 0) := by rw [hfl]; unfold flagOf; simp
            rw [← hfl] at hds
            have Hsb := hid hsb
            have Hnx := hid hnx
            have Hnx2 := hid hnx2
            have Hds0 := hid hds
            clear hsb hfl hnx hnx2 hds
            generalize hMd : descs d.r.base ch l m k = M at *
            generalize setbusy d.busy (ch.take k) = B at *
            have hxa : 0 ≤ x.addr ∧ 0 ≤ x.len ∧ x.len ≤ 4294967295 := by
              have hbd : x.bad = (decide (x.addr < 0) || decide (x.len < 0) || decide (4294967295 < x.len)) := rfl
              rw [hbd] at hxb
              simp only [Bool.or_eq_false_iff, decide_eq_false_iff_not] at hxb
              omega
            obtain ⟨pa, hpa⟩ := Int.eq_ofNat_of_zero_le hxa.1
            obtain ⟨pl, hpl⟩ := Int.eq_ofNat_of_zero_le hxa.2.1
            have hpb : pa ≤ 9223372036854775807 := by have := HB.out x (List.mem_of_getElem? hx); omega
            have hplb : pl ≤ 4294967295 := by omega
            obtain ⟨A, hA⟩ : ∃ A, A = d.r.base + 16 * ck := ⟨_, rfl⟩
            have Hds := hid (show descs d.r.base ch l m (k + 1) = lset (lset (lset (lset M A 8 pa) (A + 8) 4 pl) (A + 12) 2 fl) (A + 14) 2 nx by
              rw [Hds0.out]; unfold descM; rw [hpa, hpl, Int.toNat_natCast, Int.toNat_natCast, hA, Nat.add_assoc, Nat.add_assoc, Nat.add_assoc])
            have hfit := Ok.out.rg.fit
            have hq8 : qs d.r.n = 8 + 26 * d.r.n := rfl
            have hAf : A + 16 ≤ m.length := by omega
            have Hrk : Hid (∀ (w' : World), SatL w' L → w'.cell? ⟨ab, ao + k * 3, none⟩ = some (.int .i64 (pa : Int)) ∧ w'.cell? ⟨ab, ao + k * 3 + 1, none⟩ = some (.int .i64 (pl : Int)) ∧ w'.cell? ⟨ab, ao + k * 3 + 2, none⟩ = some (.bool x.wr)) := hid (fun w' h' => by have := hrow.out w' h' k x hx; rw [hpa, hpl] at this; exact this)
            have Hcl : Hid (∀ (w' : World) (Mq : List UInt8) (Bq : List Bool), SatL w' (SlB 5 (.slice (some ⟨mb, o, none⟩) N c) (Mq) :: cl db 89 (xdrvV mb o N c d.r (.slice (some ⟨bb, bo, none⟩) d.r.n bc) (.slice fa rs.length fc)).toArray :: Sl 4 (.slice (some ⟨bb, bo, none⟩) d.r.n bc) (Bq.map Value.bool) :: NatsL (.slice (some ⟨lb, lo, none⟩) l.length cap) ch :: cl cb 95 #[.int .i64 (h0 : Nat), .slice (some ⟨lb, lo, none⟩) l.length cap] :: ChL (.slice fa rs.length fc) rs :: big (fun r : Rf (List Nat) => NatsL r.v r.xs) rs :: L) → w'.cell? ⟨lb, lo + k, none⟩ = some (.int .i64 (ck : Nat)) ∧ w'.cell? ⟨cb, 1, none⟩ = some (.slice (some ⟨lb, lo, none⟩) l.length cap) ∧ w'.cell? ⟨db, 0, none⟩ = some (.slice (some ⟨mb, o, none⟩) N c) ∧ w'.cell? ⟨db, 1, none⟩ = some (.int .i64 d.r.base) ∧ w'.cell? ⟨db, 3, none⟩ = some (.slice (some ⟨bb, bo, none⟩) d.r.n bc)) :=
              hid (fun w' Mq Bq h => ⟨Sl.cell (h.pull 3 : SatL w' (Sl _ _ _ :: _)) (i := k) (x := .int .i64 (ck : Nat)) (by unfold natV; rw [List.getElem?_map, hck]; rfl), (h.pull 4 : SatL w' (cl _ _ _ :: _)).cell (i := 1) rfl, (hcl.out _ _ (h.pull 1)).1, (hcl.out _ _ (h.pull 1)).2.1, (hcl.out _ _ (h.pull 1)).2.2.2.1⟩)
            have Hnc : Hid (∀ (w' : World) (Mq : List UInt8) (Bq : List Bool), k + 1 < l.length → SatL w' (SlB 5 (.slice (some ⟨mb, o, none⟩) N c) (Mq) :: cl db 89 (xdrvV mb o N c d.r (.slice (some ⟨bb, bo, none⟩) d.r.n bc) (.slice fa rs.length fc)).toArray :: Sl 4 (.slice (some ⟨bb, bo, none⟩) d.r.n bc) (Bq.map Value.bool) :: NatsL (.slice (some ⟨lb, lo, none⟩) l.length cap) ch :: cl cb 95 #[.int .i64 (h0 : Nat), .slice (some ⟨lb, lo, none⟩) l.length cap] :: ChL (.slice fa rs.length fc) rs :: big (fun r : Rf (List Nat) => NatsL r.v r.xs) rs :: L) → w'.cell? ⟨lb, lo + (k + 1), none⟩ = some (.int .i64 (nx : Nat))) :=
              hid (fun w' Mq Bq hk h => Sl.cell (h.pull 3 : SatL w' (Sl _ _ _ :: _)) (i := k + 1) (x := .int .i64 (nx : Nat)) (by unfold natV; rw [List.getElem?_map, Hnx2.out hk]; rfl))
            have Hml := hid hml
            have hkz : (k : Int) < l.length := by omega
            have hkb : k ≤ 256 := by omega
            have hkbz : (k : Int) ≤ 256 := by omega
            have hckb : ck ≤ 256 := by have := Hn.out; omega
            have hckz : (ck : Int) ≤ 256 := by omega
            have hcknz : (ck : Int) < d.r.n := by omega
            have hbz : (d.r.base : Int) ≤ 1000000 := by omega
            have hAz : (A : Int) ≤ 1000000 := by omega
            generalize x.wr = xw at *
            have hB3 : (B.map Value.bool).length = d.r.n := by rw [List.length_map]; exact hbl
            have hd := sat_drew.2 hs
            have hbs := Sl.set (hs.pull 2 : SatL _ (Sl _ _ _ :: _)) (i := ck) (by rw [hB3]; exact hckn) (.bool true)
            have fr := Sl.free (hd.pull 2 : SatL _ (Sl _ _ _ :: _)) (bo + ck)
            obtain ⟨ub, cu⟩ : ∃ u, wr.drew.cell? ⟨bb, bo + ck, none⟩ = some u := ⟨_, Sl.cell (hd.pull 2 : SatL _ (Sl _ _ _ :: _)) (List.getElem?_eq_getElem (show ck < (B.map Value.bool).length by rw [hB3]; exact hckn))⟩
            obtain ⟨q1, q2, q3, q4, q5⟩ := Hcl.out _ _ _ hd
            have S3 : wr.drew.cell? ⟨db, 3, none⟩ = some (.slice (some ⟨bb, bo, none⟩) d.r.n bc) ∧ wr.drew.cell? ⟨cb, 1, none⟩ = some (.slice (some ⟨lb, lo, none⟩) l.length cap) ∧ wr.drew.cell? ⟨lb, lo + k, none⟩ = some (.int .i64 (ck : Nat)) := ⟨q5, q2, q1⟩
            have Hbs := hid (hbs.bring [1, 2, 0])
            rw [← List.map_set, ← Hsb.out] at Hbs
            clear hd hbs hB3 hbl Hsb q1 q2 q3 q4 q5 hpa hpl hxa hxb hx hck hs hml hMd Hds0 hfit hq8
            go_upto_region 20 with fail
            refine GoE.start (fun w' => w'.cell? ⟨db, 3, none⟩ = some (.slice (some ⟨bb, bo, none⟩) d.r.n bc) ∧ w'.cell? ⟨cb, 1, none⟩ = some (.slice (some ⟨lb, lo, none⟩) l.length cap) ∧ w'.cell? ⟨lb, lo + k, none⟩ = some (.int .i64 (ck : Nat))) 10 11 rfl (by kernel_rfl) ?_
            refine GoE.take (i := 0) (v := ?_) rfl (by decide) (by kernel_rfl) (by kernel_rfl) (by kernel_rfl) (by kernel_rfl) (fun _ _ _ h => h) (by rfl) ?_ (by assumption) ?_
            rotate_left
            · intro w hSw; (try dsimp only at hSw); go_simp; try (with_reducible rfl)
            try simp only [Act.put, List.setIfInBounds_toArray, List.set_cons_zero, List.set_cons_succ]
            refine GoE.take (i := 1) (v := ?_) rfl (by decide) (by kernel_rfl) (by kernel_rfl) (by kernel_rfl) (by kernel_rfl) (fun _ _ _ h => h) (by rfl) ?_ (by assumption) ?_
            rotate_left
            · intro w hSw; (try dsimp only at hSw); go_simp; try (with_reducible rfl)
            try simp only [Act.put, List.setIfInBounds_toArray, List.set_cons_zero, List.set_cons_succ]
            refine GoE.take (i := 2) (v := ?_) rfl (by decide) (by kernel_rfl) (by kernel_rfl) (by kernel_rfl) (by kernel_rfl) (fun _ _ _ h => h) (by rfl) ?_ (by assumption) ?_
            rotate_left
            · intro w hSw; (try dsimp only at hSw); go_simp; try (with_reducible rfl)
            try simp only [Act.put, List.setIfInBounds_toArray, List.set_cons_zero, List.set_cons_succ]
            refine GoE.take (i := 3) (v := ?_) rfl (by decide) (by kernel_rfl) (by kernel_rfl) (by kernel_rfl) (by kernel_rfl) (fun _ _ _ h => h) (by rfl) ?_ (by assumption) ?_
            rotate_left
            · intro w hSw; (try dsimp only at hSw); go_simp; try (with_reducible rfl)
            try simp only [Act.put, List.setIfInBounds_toArray, List.set_cons_zero, List.set_cons_succ]
            refine GoE.take (i := 4) (v := ?_) rfl (by decide) (by kernel_rfl) (by kernel_rfl) (by kernel_rfl) (by kernel_rfl) (fun _ _ _ h => h) (by rfl) ?_ (by assumption) ?_
            rotate_left
            · intro w hSw; (try dsimp only at hSw); go_simp; try (with_reducible rfl)
            try simp only [Act.put, List.setIfInBounds_toArray, List.set_cons_zero, List.set_cons_succ]
            refine GoE.take (i := 5) (v := ?_) rfl (by decide) (by kernel_rfl) (by kernel_rfl) (by kernel_rfl) (by kernel_rfl) (fun _ _ _ h => h) (by rfl) ?_ (by assumption) ?_
            rotate_left
            · intro w hSw; (try dsimp only at hSw); go_simp; try (with_reducible rfl)
            try simp only [Act.put, List.setIfInBounds_toArray, List.set_cons_zero, List.set_cons_succ]
            refine GoE.take (i := 6) (v := ?_) rfl (by decide) (by kernel_rfl) (by kernel_rfl) (by kernel_rfl) (by kernel_rfl) (fun _ _ _ h => h) (by rfl) ?_ (by assumption) ?_
            rotate_left
            · intro w hSw; (try dsimp only at hSw); go_simp; try (with_reducible rfl)
            try simp only [Act.put, List.setIfInBounds_toArray, List.set_cons_zero, List.set_cons_succ]
            refine GoE.take (i := 7) (v := ?_) rfl (by decide) (by kernel_rfl) (by kernel_rfl) (by kernel_rfl) (by kernel_rfl) (fun _ _ _ h => h) (by rfl) ?_ (by assumption) ?_
            rotate_left
            · intro w hSw; (try dsimp only at hSw); go_simp; try (with_reducible rfl)
            try simp only [Act.put, List.setIfInBounds_toArray, List.set_cons_zero, List.set_cons_succ]
            refine GoE.take (i := 8) (v := ?_) rfl (by decide) (by kernel_rfl) (by kernel_rfl) (by kernel_rfl) (by kernel_rfl) (fun _ _ _ h => h) (by rfl) ?_ (by assumption) ?_
            rotate_left
            · intro w hSw; (try dsimp only at hSw); go_simp; try (with_reducible rfl)
            try simp only [Act.put, List.setIfInBounds_toArray, List.set_cons_zero, List.set_cons_succ]
            refine GoE.take (i := 9) (v := ?_) rfl (by decide) (by kernel_rfl) (by kernel_rfl) (by kernel_rfl) (by kernel_rfl) (fun _ _ _ h => h) (by rfl) ?_ (by assumption) ?_
            rotate_left
            · intro w hSw; (try dsimp only at hSw); go_simp; try (with_reducible rfl)
            try simp only [Act.put, List.setIfInBounds_toArray, List.set_cons_zero, List.set_cons_succ]
            refine GoE.one (i := 10) rfl (by kernel_rfl) (fun K hK => ?_)
            go_simp
            refine hK.out _ _ (fun h => absurd rfl h) ?_
            clear hK K
            try simp only [Act.put, List.setIfInBounds_toArray, List.set_cons_zero, List.set_cons_succ]
            refine GoE.done (by kernel_rfl) ?_
            have H5 : SatL (wr.setCell ⟨bb, bo + ck, none⟩ (.bool true)).drew (SlB 5 (.slice (some ⟨mb, o, none⟩) N c) (M) :: cl db 89 (xdrvV mb o N c d.r (.slice (some ⟨bb, bo, none⟩) d.r.n bc) (.slice fa rs.length fc)).toArray :: Sl 4 (.slice (some ⟨bb, bo, none⟩) d.r.n bc) ((setbusy d.busy (ch.take (k + 1))).map Value.bool) :: NatsL (.slice (some ⟨lb, lo, none⟩) l.length cap) ch :: cl cb 95 #[.int .i64 (h0 : Nat), .slice (some ⟨lb, lo, none⟩) l.length cap] :: ChL (.slice fa rs.length fc) rs :: big (fun r : Rf (List Nat) => NatsL r.v r.xs) rs :: L) := sat_drew.2 (Hbs.out)
            clear Hbs S3 fr cu
            generalize (wr.setCell ⟨bb, bo + ck, none⟩ (.bool true)).drew = wE at *
            obtain ⟨B1, hB1⟩ : ∃ B1, B1 = setbusy d.busy (ch.take (k + 1)) := ⟨_, rfl⟩
            rw [← hB1] at H5
            have HB1 := hid hB1
            clear hB1
            obtain ⟨q1, q2, q3, q4, q5⟩ := Hcl.out _ _ _ H5
            have w1 : IntKind.i64.wrap (16 * (ck : Int)) = 16 * (ck : Int) := IntWalk.i64_in _ (by omega)
            have w2 : IntKind.i64.wrap ((d.r.base : Int) + 16 * (ck : Int)) = (A : Int) := by rw [show (d.r.base : Int) + 16 * (ck : Int) = (A : Int) by omega]; exact IntWalk.i64_in _ (by omega)
            have H5' := hid H5
            clear H5
            go_upto_region 21 with fail
            go_quiet (fail)
            have H6 := (sat_dn.2 H5'.out : SatL (wE.drewN nq) _)
            clear H5' q1 q2 q3 q4 q5 w1 w2
            generalize wE.drewN nq = wA at *
            obtain ⟨q1, q2, q3, q4, q5⟩ := Hcl.out _ _ _ H6
            obtain ⟨r0, r1, r2⟩ := Hrk.out _ H6.tail.tail.tail.tail.tail.tail.tail
            have hnc := hid (fun hk => Hnc.out _ _ _ hk H6)
            have H6' := hid H6
            have hkz1 : (k : Int) + 1 ≤ 257 := by omega
            clear H6
            go_upto_if 116 with fail
            go_cut [11, 12] from 117 to 122 (fun f t wx => f = .int .i64 ((if k + 1 < l.length then 1 else 0 : Nat) : Nat) ∧ t = .int .i64 nx ∧ wx = wA)
            case first =>
              by_cases hmore : k + 1 < l.length
              · have cn := hnc.out hmore
                have hmz : (k : Int) + 1 < l.length := by omega
                have cn2 := cn
                rw [← Nat.add_assoc] at cn2
                have tk : ((k : Int) + 1).toNat = k + 1 := by omega
                go_wp2_with fail
                go_meet
                exact ⟨by rw [if_pos hmore]; rfl, rfl, rfl⟩
              · have hmz : ¬ (k : Int) + 1 < l.length := by omega
                have hn0 : nx = 0 := by rw [Hnx.out, if_neg hmore]
                subst hn0
                go_wp2_with fail
                go_meet
                exact ⟨by rw [if_neg hmore]; rfl, rfl, rfl⟩
            case rest =>
            obtain ⟨rfl, rfl, hwc⟩ := hcut
            rw [hwc]
            clear hwc
            go_upto_if 127 with fail
            go_cut [11] from 128 to 129 (fun f wx => f = .int .i64 (fl : Nat) ∧ wx = wA)
            case first =>
              by_cases hmore : k + 1 < l.length
              · rw [if_pos hmore] at hfl2 ⊢
                cases xw with
                | true =>
                  obtain rfl : fl = 3 := hfl2
                  go_wp2_with fail
                  go_meet
                  exact ⟨rfl, rfl⟩
                | false =>
                  obtain rfl : fl = 1 := hfl2
                  go_wp2_with fail
                  go_meet
                  exact ⟨rfl, rfl⟩
              · rw [if_neg hmore] at hfl2 ⊢
                cases xw with
                | true =>
                  obtain rfl : fl = 2 := hfl2
                  go_wp2_with fail
                  go_meet
                  exact ⟨rfl, rfl⟩
                | false =>
                  obtain rfl : fl = 0 := hfl2
                  go_wp2_with fail
                  go_meet
                  exact ⟨rfl, rfl⟩
            case rest =>
            obtain ⟨rfl, hwc⟩ := hcut
            rw [hwc]
            clear hwc
            have hfl3 : fl ≤ 3 := by rw [hfl2]; split <;> split <;> omega
            have hml := Hml.out
            have l1 : (lset M A 8 pa).length = m.length := by rw [lset_len (by omega), hml]
            have l2 : (lset (lset M A 8 pa) (A + 8) 4 pl).length = m.length := by rw [lset_len (by omega), l1]
            have l3 : (lset (lset (lset M A 8 pa) (A + 8) 4 pl) (A + 12) 2 fl).length = m.length := by rw [lset_len (by omega), l2]
            have k1 := hset.out wA.drew _ M hml A 8 pa (by omega) (by omega) (by omega) (sat_drew.2 H6'.out)
            have s2 := hid (fun (w' : World) (X : List HP) => hset.out w' X _ l1 (A + 8) 4 pl (by omega) (by omega) (by omega))
            have s3 := hid (fun (w' : World) (X : List HP) => hset.out w' X _ l2 (A + 12) 2 fl (by omega) (by omega) (by omega))
            have s4 := hid (fun (w' : World) (X : List HP) => hset.out w' X _ l3 (A + 14) 2 nx (by omega) (by omega) (by omega))
            rw [← Hds.out] at s4
            have hAz2 : (A : Int) = (d.r.base : Int) + 16 * (ck : Int) := by omega
            simp only [show ((8 : Nat) : Int) = 8 from rfl, hAz2] at k1
            simp only [show ((A + 8 : Nat) : Int) = (d.r.base : Int) + 16 * (ck : Int) + 8 by omega, show ((4 : Nat) : Int) = 4 from rfl] at s2
            simp only [show ((A + 12 : Nat) : Int) = (d.r.base : Int) + 16 * (ck : Int) + 12 by omega, show ((2 : Nat) : Int) = 2 from rfl] at s3
            simp only [show ((A + 14 : Nat) : Int) = (d.r.base : Int) + 16 * (ck : Int) + 14 by omega, show ((2 : Nat) : Int) = 2 from rfl] at s4
            obtain ⟨M4, hM4⟩ : ∃ M4, M4 = descs d.r.base ch l m (k + 1) := ⟨_, rfl⟩
            rw [← hM4] at s4
            have HM4 := hid hM4
            clear hM4 Hds l1 l2 l3 hfl2 hml hAz2
            have HA := hid hA
            clear hA
            generalize lset (lset (lset M A 8 pa) (A + 8) 4 pl) (A + 12) 2 fl = M3 at *
            generalize lset (lset M A 8 pa) (A + 8) 4 pl = M2 at *
            generalize lset M A 8 pa = M1 at *
            have S6 : wA.drew.cell? ⟨db, 0, none⟩ = some (.slice (some ⟨mb, o, none⟩) N c) ∧ wA.drew.cell? ⟨ab, ao + k * 3, none⟩ = some (.int .i64 (pa : Int)) := ⟨q3, r0⟩
            have hflz : (fl : Int) ≤ 3 := by omega
            have hnxz : (nx : Int) < 65536 := by omega
            have hplz : (pl : Int) ≤ 4294967295 := by omega
            clear q1 q2 q3 q4 q5 r0 r1 r2 hnc H6'
            go_upto_region 28 with fail
            refine GoE.start (fun w' => w'.cell? ⟨db, 0, none⟩ = some (.slice (some ⟨mb, o, none⟩) N c) ∧ w'.cell? ⟨ab, ao + k * 3, none⟩ = some (.int .i64 (pa : Int))) 10 11 rfl (by kernel_rfl) ?_
            refine GoE.take (i := 0) (v := ?_) rfl (by decide) (by kernel_rfl) (by kernel_rfl) (by kernel_rfl) (by kernel_rfl) (fun _ _ _ h => h) (by rfl) ?_ (by assumption) ?_
            rotate_left
            · intro w hSw; (try dsimp only at hSw); go_simp; try (with_reducible rfl)
            try simp only [Act.put, List.setIfInBounds_toArray, List.set_cons_zero, List.set_cons_succ]
            refine GoE.take (i := 1) (v := ?_) rfl (by decide) (by kernel_rfl) (by kernel_rfl) (by kernel_rfl) (by kernel_rfl) (fun _ _ _ h => h) (by rfl) ?_ (by assumption) ?_
            rotate_left
            · intro w hSw; (try dsimp only at hSw); go_simp; try (with_reducible rfl)
            try simp only [Act.put, List.setIfInBounds_toArray, List.set_cons_zero, List.set_cons_succ]
            refine GoE.take (i := 2) (v := ?_) rfl (by decide) (by kernel_rfl) (by kernel_rfl) (by kernel_rfl) (by kernel_rfl) (fun _ _ _ h => h) (by rfl) ?_ (by assumption) ?_
            rotate_left
            · intro w hSw; (try dsimp only at hSw); go_simp; try (with_reducible rfl)
            try simp only [Act.put, List.setIfInBounds_toArray, List.set_cons_zero, List.set_cons_succ]
            refine GoE.take (i := 3) (v := ?_) rfl (by decide) (by kernel_rfl) (by kernel_rfl) (by kernel_rfl) (by kernel_rfl) (fun _ _ _ h => h) (by rfl) ?_ (by assumption) ?_
            rotate_left
            · intro w hSw; (try dsimp only at hSw); go_simp; try (with_reducible rfl)
            try simp only [Act.put, List.setIfInBounds_toArray, List.set_cons_zero, List.set_cons_succ]
            refine GoE.take (i := 4) (v := ?_) rfl (by decide) (by kernel_rfl) (by kernel_rfl) (by kernel_rfl) (by kernel_rfl) (fun _ _ _ h => h) (by rfl) ?_ (by assumption) ?_
            rotate_left
            · intro w hSw; (try dsimp only at hSw); go_simp; try (with_reducible rfl)
            try simp only [Act.put, List.setIfInBounds_toArray, List.set_cons_zero, List.set_cons_succ]
            refine GoE.take (i := 5) (v := ?_) rfl (by decide) (by kernel_rfl) (by kernel_rfl) (by kernel_rfl) (by kernel_rfl) (fun _ _ _ h => h) (by rfl) ?_ (by assumption) ?_
            rotate_left
            · intro w hSw; (try dsimp only at hSw); go_simp; try (with_reducible rfl)
            try simp only [Act.put, List.setIfInBounds_toArray, List.set_cons_zero, List.set_cons_succ]
            refine GoE.take (i := 6) (v := ?_) rfl (by decide) (by kernel_rfl) (by kernel_rfl) (by kernel_rfl) (by kernel_rfl) (fun _ _ _ h => h) (by rfl) ?_ (by assumption) ?_
            rotate_left
            · intro w hSw; (try dsimp only at hSw); go_simp; try (with_reducible rfl)
            try simp only [Act.put, List.setIfInBounds_toArray, List.set_cons_zero, List.set_cons_succ]
            refine GoE.take (i := 7) (v := ?_) rfl (by decide) (by kernel_rfl) (by kernel_rfl) (by kernel_rfl) (by kernel_rfl) (fun _ _ _ h => h) (by rfl) ?_ (by assumption) ?_
            rotate_left
            · intro w hSw; (try dsimp only at hSw); go_simp; try (with_reducible rfl)
            try simp only [Act.put, List.setIfInBounds_toArray, List.set_cons_zero, List.set_cons_succ]
            refine GoE.take (i := 8) (v := ?_) rfl (by decide) (by kernel_rfl) (by kernel_rfl) (by kernel_rfl) (by kernel_rfl) (fun _ _ _ h => h) (by rfl) ?_ (by assumption) ?_
            rotate_left
            · intro w hSw; (try dsimp only at hSw); go_simp; try (with_reducible rfl)
            try simp only [Act.put, List.setIfInBounds_toArray, List.set_cons_zero, List.set_cons_succ]
            refine GoE.take (i := 9) (v := ?_) rfl (by decide) (by kernel_rfl) (by kernel_rfl) (by kernel_rfl) (by kernel_rfl) (fun _ _ _ h => h) (by rfl) ?_ (by assumption) ?_
            rotate_left
            · intro w hSw; (try dsimp only at hSw); go_simp; try (with_reducible rfl)
            try simp only [Act.put, List.setIfInBounds_toArray, List.set_cons_zero, List.set_cons_succ]
            refine GoE.one (i := 10) rfl (by kernel_rfl) (fun K hK => ?_)
            go_simp
            go_at_call 42
            (with_reducible refine (k1).mono ?_)
            rintro e w6 ⟨v, rfl, h6⟩
            go_wp2_with fail
            refine hK.out _ _ (fun h => absurd rfl h) ?_
            clear hK K
            try simp only [Act.put, List.setIfInBounds_toArray, List.set_cons_zero, List.set_cons_succ]
            refine GoE.done (by kernel_rfl) ?_
            clear k1 S6
            have H7 := sat_drew.2 h6
            obtain ⟨_, _, q3, _, _⟩ := Hcl.out _ _ _ H7
            obtain ⟨_, r1, _⟩ := Hrk.out _ H7.tail.tail.tail.tail.tail.tail.tail
            have S7 : w6.drew.cell? ⟨db, 0, none⟩ = some (.slice (some ⟨mb, o, none⟩) N c) ∧ w6.drew.cell? ⟨ab, ao + k * 3 + 1, none⟩ = some (.int .i64 (pl : Int)) := ⟨q3, r1⟩
            have k2 := s2.out _ _ H7
            clear q3 r1 h6 H7
            have i8 : IntKind.i64.wrap ((d.r.base : Int) + 16 * (ck : Int) + 8) = (d.r.base : Int) + 16 * (ck : Int) + 8 := IntWalk.i64_in _ (by omega)
            go_upto_region 29 with fail
            refine GoE.start (fun w' => w'.cell? ⟨db, 0, none⟩ = some (.slice (some ⟨mb, o, none⟩) N c) ∧ w'.cell? ⟨ab, ao + k * 3 + 1, none⟩ = some (.int .i64 (pl : Int))) 11 12 rfl (by kernel_rfl) ?_
            refine GoE.take (i := 0) (v := ?_) rfl (by decide) (by kernel_rfl) (by kernel_rfl) (by kernel_rfl) (by kernel_rfl) (fun _ _ _ h => h) (by rfl) ?_ (by assumption) ?_
            rotate_left
            · intro w hSw; (try dsimp only at hSw); go_simp; try (with_reducible rfl)
            try simp only [Act.put, List.setIfInBounds_toArray, List.set_cons_zero, List.set_cons_succ]
            refine GoE.take (i := 1) (v := ?_) rfl (by decide) (by kernel_rfl) (by kernel_rfl) (by kernel_rfl) (by kernel_rfl) (fun _ _ _ h => h) (by rfl) ?_ (by assumption) ?_
            rotate_left
            · intro w hSw; (try dsimp only at hSw); go_simp; try (with_reducible rfl)
            try simp only [Act.put, List.setIfInBounds_toArray, List.set_cons_zero, List.set_cons_succ]
            refine GoE.take (i := 2) (v := ?_) rfl (by decide) (by kernel_rfl) (by kernel_rfl) (by kernel_rfl) (by kernel_rfl) (fun _ _ _ h => h) (by rfl) ?_ (by assumption) ?_
            rotate_left
            · intro w hSw; (try dsimp only at hSw); go_simp; try (with_reducible rfl)
            try simp only [Act.put, List.setIfInBounds_toArray, List.set_cons_zero, List.set_cons_succ]
            refine GoE.take (i := 3) (v := ?_) rfl (by decide) (by kernel_rfl) (by kernel_rfl) (by kernel_rfl) (by kernel_rfl) (fun _ _ _ h => h) (by rfl) ?_ (by assumption) ?_
            rotate_left
            · intro w hSw; (try dsimp only at hSw); go_simp; try (with_reducible rfl)
            try simp only [Act.put, List.setIfInBounds_toArray, List.set_cons_zero, List.set_cons_succ]
            refine GoE.take (i := 4) (v := ?_) rfl (by decide) (by kernel_rfl) (by kernel_rfl) (by kernel_rfl) (by kernel_rfl) (fun _ _ _ h => h) (by rfl) ?_ (by assumption) ?_
            rotate_left
            · intro w hSw; (try dsimp only at hSw); go_simp; try (with_reducible rfl)
            try simp only [Act.put, List.setIfInBounds_toArray, List.set_cons_zero, List.set_cons_succ]
            refine GoE.take (i := 5) (v := ?_) rfl (by decide) (by kernel_rfl) (by kernel_rfl) (by kernel_rfl) (by kernel_rfl) (fun _ _ _ h => h) (by rfl) ?_ (by assumption) ?_
            rotate_left
            · intro w hSw; (try dsimp only at hSw); go_simp; try (with_reducible rfl)
            try simp only [Act.put, List.setIfInBounds_toArray, List.set_cons_zero, List.set_cons_succ]
            refine GoE.take (i := 6) (v := ?_) rfl (by decide) (by kernel_rfl) (by kernel_rfl) (by kernel_rfl) (by kernel_rfl) (fun _ _ _ h => h) (by rfl) ?_ (by assumption) ?_
            rotate_left
            · intro w hSw; (try dsimp only at hSw); go_simp; try (with_reducible rfl)
            try simp only [Act.put, List.setIfInBounds_toArray, List.set_cons_zero, List.set_cons_succ]
            refine GoE.take (i := 7) (v := ?_) rfl (by decide) (by kernel_rfl) (by kernel_rfl) (by kernel_rfl) (by kernel_rfl) (fun _ _ _ h => h) (by rfl) ?_ (by assumption) ?_
            rotate_left
            · intro w hSw; (try dsimp only at hSw); go_simp; try (with_reducible rfl)
            try simp only [Act.put, List.setIfInBounds_toArray, List.set_cons_zero, List.set_cons_succ]
            refine GoE.take (i := 8) (v := ?_) rfl (by decide) (by kernel_rfl) (by kernel_rfl) (by kernel_rfl) (by kernel_rfl) (fun _ _ _ h => h) (by rfl) ?_ (by assumption) ?_
            rotate_left
            · intro w hSw; (try dsimp only at hSw); go_simp; try (with_reducible rfl)
            try simp only [Act.put, List.setIfInBounds_toArray, List.set_cons_zero, List.set_cons_succ]
            refine GoE.take (i := 9) (v := ?_) rfl (by decide) (by kernel_rfl) (by kernel_rfl) (by kernel_rfl) (by kernel_rfl) (fun _ _ _ h => h) (by rfl) ?_ (by assumption) ?_
            rotate_left
            · intro w hSw; (try dsimp only at hSw); go_simp; try (with_reducible rfl)
            try simp only [Act.put, List.setIfInBounds_toArray, List.set_cons_zero, List.set_cons_succ]
            refine GoE.take (i := 10) (v := ?_) rfl (by decide) (by kernel_rfl) (by kernel_rfl) (by kernel_rfl) (by kernel_rfl) (fun _ _ _ h => h) (by rfl) ?_ (by assumption) ?_
            rotate_left
            · intro w hSw; (try dsimp only at hSw); go_simp; try (with_reducible rfl)
            try simp only [Act.put, List.setIfInBounds_toArray, List.set_cons_zero, List.set_cons_succ]
            refine GoE.one (i := 11) rfl (by kernel_rfl) (fun K hK => ?_)
            go_simp
            go_at_call 42
            (with_reducible refine (k2).mono ?_)
            rintro e w7 ⟨v, rfl, h7⟩
            go_wp2_with fail
            refine hK.out _ _ (fun h => absurd rfl h) ?_
            clear hK K
            try simp only [Act.put, List.setIfInBounds_toArray, List.set_cons_zero, List.set_cons_succ]
            refine GoE.done (by kernel_rfl) ?_
            clear k2 S7 s2 i8
            have k3 := s3.out _ _ h7
            obtain ⟨_, _, q3, _, _⟩ := Hcl.out _ _ _ h7
            go_wp2_with (first
              | (go_at_call 42; (with_reducible refine k3.mono ?_); rintro e w8 ⟨v, rfl, h8⟩; have k4 := s4.out _ _ h8; obtain ⟨_, _, y3, _, _⟩ := Hcl.out _ _ _ h8)
              | (go_at_call 42; (with_reducible refine k4.mono ?_); rintro e w9 ⟨v, rfl, h9⟩))
            go_roundw
            case rel => exact ⟨k + 1, by omega, by go_num, by rw [← HM4.out, ← HB1.out]; exact h9⟩
            case measure => simp [intOf]; omega
          · obtain rfl : k = l.length := by omega
            have htk : ch.take l.length = ch := by rw [← Hleq.out, List.take_length]
            rw [htk] at hs
            obtain ⟨hh0, hg0⟩ := Hh0.out
            have hres := Hres3.out
            have hml : (descs d.r.base ch l m l.length).length = m.length := descs_len (n := d.r.n) (by have := Hn.out; omega) hcm.out Ok.out.rg.fit _
            have hpm : d.putM m ch l = lset (lset (descs d.r.base ch l m l.length) (d.r.base + (16 * d.r.n + 4 + 2 * (d.r.off % d.r.n))) 2 h0) (d.r.base + (16 * d.r.n + 2)) 2 ((d.r.off + 1) % 65536) := by rw [← hg0]; rfl
            have hpd : d.put ch = ⟨d.r.step, setbusy d.busy ch, upo d.ch (h0 : Int) ch⟩ := by rw [← hg0]; rfl
            obtain ⟨q, hq⟩ : ∃ q, q = d.r.off % d.r.n := ⟨_, rfl⟩
            obtain ⟨R, hR⟩ : ∃ R, R = d.r.base + 16 * d.r.n := ⟨_, rfl⟩
            rw [← hq, show d.r.base + (16 * d.r.n + 4 + 2 * q) = R + 4 + 2 * q by omega, show d.r.base + (16 * d.r.n + 2) = R + 2 by omega] at hpm
            rw [hpm, hpd] at hres
            have hh0n : h0 < d.r.n := hcm.out h0 (List.mem_of_getElem? hh0)
            have hnb := Hn.out
            have hfit := Ok.out.rg.fit
            have hq8 : qs d.r.n = 8 + 26 * d.r.n := rfl
            have hqn : q < d.r.n := by rw [hq]; exact Nat.mod_lt _ (by omega)
            have e1 : Int.tmod (d.r.off : Int) (d.r.n : Int) = (q : Int) := by rw [Int.tmod_eq_emod_of_nonneg (by omega), hq]; rfl
            have e2 : (d.r.off : Int) % (d.r.n : Int) = (q : Int) := by rw [hq]; rfl
            have hnz : ¬ (d.r.n : Int) = 0 := by omega
            have hnz0 : ¬ d.r.n = 0 := by omega
            have hro : (d.r.off + 1) % 65536 < 65536 := Nat.mod_lt _ (by omega)
            have hob := Ok.out.rg.ob
            have e3 : Int.tmod ((d.r.off : Int) + 1) 65536 = (((d.r.off + 1) % 65536 : Nat) : Int) := by rw [Int.tmod_eq_emod_of_nonneg (by omega)]; omega
            have e4 : ((d.r.off : Int) + 1) % 65536 = (((d.r.off + 1) % 65536 : Nat) : Int) := by omega
            have l1 : (lset (descs d.r.base ch l m l.length) (R + 4 + 2 * q) 2 h0).length = m.length := by rw [lset_len (by omega), hml]
            have s1 := hid (fun (w' : World) (X : List HP) => hset.out w' X _ hml (R + 4 + 2 * q) 2 h0 (by omega) (by omega) (by omega))
            have s2 := hid (fun (w' : World) (X : List HP) => hset.out w' X _ l1 (R + 2) 2 ((d.r.off + 1) % 65536) (by omega) (by omega) (by omega))
            simp only [show ((R + 4 + 2 * q : Nat) : Int) = (d.r.base : Int) + 16 * (d.r.n : Int) + 4 + 2 * (q : Int) by omega, show ((2 : Nat) : Int) = 2 from rfl] at s1
            simp only [show ((R + 2 : Nat) : Int) = (d.r.base : Int) + 16 * (d.r.n : Int) + 2 by omega, show ((2 : Nat) : Int) = 2 from rfl] at s2
            have hnz2 : (d.r.n : Int) ≤ 256 := by omega
            have hbz : (d.r.base : Int) ≤ 1000000 := by omega
            have hRz : (R : Int) ≤ 1010000 := by omega
            have hoz : (d.r.off : Int) < 65536 := by omega
            have w1 : IntKind.i64.wrap (16 * (d.r.n : Int)) = 16 * (d.r.n : Int) := IntWalk.i64_in _ (by omega)
            have w2 : IntKind.i64.wrap ((d.r.base : Int) + 16 * (d.r.n : Int)) = (d.r.base : Int) + 16 * (d.r.n : Int) := IntWalk.i64_in _ (by omega)
            have w3 : IntKind.i64.wrap (2 * (q : Int)) = 2 * (q : Int) := IntWalk.i64_in _ (by omega)
            have w4 : IntKind.i64.wrap ((d.r.base : Int) + 16 * (d.r.n : Int) + 4) = (d.r.base : Int) + 16 * (d.r.n : Int) + 4 := IntWalk.i64_in _ (by omega)
            have ww5 : IntKind.i64.wrap ((d.r.base : Int) + 16 * (d.r.n : Int) + 4 + 2 * (q : Int)) = (d.r.base : Int) + 16 * (d.r.n : Int) + 4 + 2 * (q : Int) := IntWalk.i64_in _ (by omega)
            have w6 : IntKind.i64.wrap ((d.r.base : Int) + 16 * (d.r.n : Int) + 2) = (d.r.base : Int) + 16 * (d.r.n : Int) + 2 := IntWalk.i64_in _ (by omega)
            have w7 : IntKind.i64.wrap (q : Int) = (q : Int) := IntWalk.i64_in _ (by omega)
            have E34 := hid (And.intro e3 e4)
            have hsetc : Hid (∀ (w' : World) (X : List HP) (fv : Value), SatL w' (cl db 89 (xdrvV mb o N c d.r (.slice (some ⟨bb, bo, none⟩) d.r.n bc) (fv)).toArray :: X) → SatL (w'.setCell ⟨db, 4, none⟩ (.int .i64 ((d.r.off + 1) % 65536 : Nat))) (cl db 89 (xdrvV mb o N c d.r.step (.slice (some ⟨bb, bo, none⟩) d.r.n bc) (fv)).toArray :: X)) := hid (fun w' X fv h => SatL.set h (i := 4) _)
            have hcl1 : Hid (∀ (w' : World) (X : List HP) (fv : Value), SatL w' (cl db 89 (xdrvV mb o N c d.r (.slice (some ⟨bb, bo, none⟩) d.r.n bc) (fv)).toArray :: X) → w'.cell? ⟨db, 0, none⟩ = some (.slice (some ⟨mb, o, none⟩) N c) ∧ w'.cell? ⟨db, 1, none⟩ = some (.int .i64 d.r.base) ∧ w'.cell? ⟨db, 2, none⟩ = some (.int .i64 d.r.n) ∧ w'.cell? ⟨db, 4, none⟩ = some (.int .i64 d.r.off) ∧ w'.cell? ⟨db, 6, none⟩ = some fv ∧ w'.frozen? ⟨db, 6, none⟩ = false ∧ w'.frozen? ⟨db, 4, none⟩ = false) := hid (fun w' X fv h => ⟨h.cell (i := 0) rfl, h.cell (i := 1) rfl, h.cell (i := 2) rfl, h.cell (i := 4) rfl, h.cell (i := 6) rfl, h.free 6, h.free 4⟩)
            have hcl2 : Hid (∀ (w' : World) (X : List HP) (fv : Value), SatL w' (cl db 89 (xdrvV mb o N c d.r.step (.slice (some ⟨bb, bo, none⟩) d.r.n bc) (fv)).toArray :: X) → w'.cell? ⟨db, 0, none⟩ = some (.slice (some ⟨mb, o, none⟩) N c) ∧ w'.cell? ⟨db, 4, none⟩ = some (.int .i64 ((d.r.off + 1) % 65536 : Nat))) := hid (fun w' X fv h => ⟨h.cell (i := 0) rfl, h.cell (i := 4) rfl⟩)
            have Hres4 := hid hres
            obtain ⟨M2, hM2⟩ : ∃ M2, M2 = lset (lset (descs d.r.base ch l m l.length) (R + 4 + 2 * q) 2 h0) (R + 2) 2 ((d.r.off + 1) % 65536) := ⟨_, rfl⟩
            rw [← hM2] at s2 Hres4
            clear hM2 hml l1 hpm hpd hg0 htk hq hR hres e3 e4 hnb hfit hq8 Hres3 hset hgood
            generalize lset (descs d.r.base ch l m l.length) (R + 4 + 2 * q) 2 h0 = M1 at *
            generalize descs d.r.base ch l m l.length = M0 at *
            generalize (d.r.off + 1) % 65536 = ro at *
            have hroz : (ro : Int) < 65536 := by omega
            obtain ⟨hch, hnd, hnone⟩ := Hch2.out
            have HE := hid (And.intro (chs_add (r := ⟨(h0 : Int), .slice (some ⟨lb, lo, none⟩) l.length cap, ch⟩) (by rw [← hch]; exact hnone)) (chs_add_nodup (r := ⟨(h0 : Int), .slice (some ⟨lb, lo, none⟩) l.length cap, ch⟩) (by rw [← hch]; exact hnone) hnd))
            have Hch3 := hid hch
            clear hch hnd hnone Hch2 hh0
            have hd := sat_drew.2 hs
            obtain ⟨c0, c1, c2, c4, c6, f6, f4⟩ := hcl1.out _ _ _ (hd.pull 1)
            obtain ⟨g0, g1, _, _⟩ := hcc.out _ _ _ _ (hd.pull 4)
            have al := hd.alloc (.cells #[.int .i64 (h0 : Nat), .slice (some ⟨lb, lo, none⟩) l.length cap] 95)
            have hK := al.pull 6
            have hsrc := SrcOk.ofCl (P := Try.prog) (n := 1) (k := 2) elem_chain.under (al : SatL _ (cl _ _ _ :: _)) rfl 1
            have hone := hid (show ∀ y ∈ #[Value.int .i64 (h0 : Nat), .slice (some ⟨lb, lo, none⟩) l.length cap].toList, y.oneCell' = true by intro y hy; simp at hy; rcases hy with rfl | rfl <;> rfl)
            have b1 : (rs.length + 1) * 32 ≤ 140737488355328 := by have := hnz2; omega
            have b2 : rs.length + 1 ≤ maxLen := by unfold maxLen; omega
            have S1 : wr.drew.cell? ⟨db, 6, none⟩ = some (.slice fa rs.length fc) ∧ wr.drew.cell? ⟨cb, 0, none⟩ = some (.int .i64 (h0 : Nat)) ∧ wr.drew.cell? ⟨cb, 1, none⟩ = some (.slice (some ⟨lb, lo, none⟩) l.length cap) := ⟨c6, g0, g1⟩
            obtain ⟨_, _, _, _, x6, _, _⟩ := hcl1.out _ _ _ (al.pull 2)
            obtain ⟨x0, x1, _, _⟩ := hcc.out _ _ _ _ (al.pull 5)
            have S2 := And.intro x6 (And.intro x0 x1)
            clear c0 c1 c2 c4 c6 f6 f4 g0 g1 x6 x0 x1 al hd hs
            go_upto_region 32 with fail
            refine GoE.start (fun w' => w'.cell? ⟨db, 6, none⟩ = some (.slice fa rs.length fc) ∧ w'.cell? ⟨cb, 0, none⟩ = some (.int .i64 (h0 : Nat)) ∧ w'.cell? ⟨cb, 1, none⟩ = some (.slice (some ⟨lb, lo, none⟩) l.length cap)) 10 11 rfl (by kernel_rfl) ?_
            refine GoE.take (i := 0) (v := ?_) rfl (by decide) (by kernel_rfl) (by kernel_rfl) (by kernel_rfl) (by kernel_rfl) (fun _ _ _ h => h) (by rfl) ?_ (by assumption) ?_
            rotate_left
            · intro w hSw; (try dsimp only at hSw); go_simp; try (with_reducible rfl)
            try simp only [Act.put, List.setIfInBounds_toArray, List.set_cons_zero, List.set_cons_succ]
            refine GoE.take (i := 1) (v := ?_) rfl (by decide) (by kernel_rfl) (by kernel_rfl) (by kernel_rfl) (by kernel_rfl) (fun _ _ _ h => h) (by rfl) ?_ (by assumption) ?_
            rotate_left
            · intro w hSw; (try dsimp only at hSw); go_simp; try (with_reducible rfl)
            try simp only [Act.put, List.setIfInBounds_toArray, List.set_cons_zero, List.set_cons_succ]
            refine GoE.take (i := 2) (v := ?_) rfl (by decide) (by kernel_rfl) (by kernel_rfl) (by kernel_rfl) (by kernel_rfl) (fun _ _ _ h => h) (by rfl) ?_ (by assumption) ?_
            rotate_left
            · intro w hSw; (try dsimp only at hSw); go_simp; try (with_reducible rfl)
            try simp only [Act.put, List.setIfInBounds_toArray, List.set_cons_zero, List.set_cons_succ]
            refine GoE.take (i := 3) (v := ?_) rfl (by decide) (by kernel_rfl) (by kernel_rfl) (by kernel_rfl) (by kernel_rfl) (fun _ _ _ h => h) (by rfl) ?_ (by assumption) ?_
            rotate_left
            · intro w hSw; (try dsimp only at hSw); go_simp; try (with_reducible rfl)
            try simp only [Act.put, List.setIfInBounds_toArray, List.set_cons_zero, List.set_cons_succ]
            refine GoE.take (i := 4) (v := ?_) rfl (by decide) (by kernel_rfl) (by kernel_rfl) (by kernel_rfl) (by kernel_rfl) (fun _ _ _ h => h) (by rfl) ?_ (by assumption) ?_
            rotate_left
            · intro w hSw; (try dsimp only at hSw); go_simp; try (with_reducible rfl)
            try simp only [Act.put, List.setIfInBounds_toArray, List.set_cons_zero, List.set_cons_succ]
            refine GoE.take (i := 5) (v := ?_) rfl (by decide) (by kernel_rfl) (by kernel_rfl) (by kernel_rfl) (by kernel_rfl) (fun _ _ _ h => h) (by rfl) ?_ (by assumption) ?_
            rotate_left
            · intro w hSw; (try dsimp only at hSw); go_simp; try (with_reducible rfl)
            try simp only [Act.put, List.setIfInBounds_toArray, List.set_cons_zero, List.set_cons_succ]
            refine GoE.one (i := 6) rfl (by kernel_rfl) (fun K hK => ?_)
            go_simp
            refine hK.out _ _ (fun _ => S2) ?_
            clear hK K
            try simp only [Act.put, List.setIfInBounds_toArray, List.set_cons_zero, List.set_cons_succ]
            refine GoE.one (i := 7) rfl (by kernel_rfl) (fun K hK2 => ?_)
            refine step_append_sl rfl (.tmp 173) (.tmp 175) rfl elem_chain rfl hK rfl hsrc hone.out b1 b2 ?_
            intro v5 w5 h5 _
            obtain ⟨va, vc, rfl, v1, v2⟩ := SlK.valn h5
            obtain ⟨_, _, _, _, x6, y6, _⟩ := hcl1.out _ _ _ (h5.pull 3)
            obtain ⟨x0, x1, _, _⟩ := hcc.out _ _ _ _ (h5.pull 6)
            have S3 := And.intro x6 (And.intro x0 x1)
            refine hK2.out _ _ (fun _ => S3) ?_
            clear hK2 K
            try simp only [Act.put, List.setIfInBounds_toArray, List.set_cons_zero, List.set_cons_succ]
            refine GoE.take (i := 8) (v := ?_) rfl (by decide) (by kernel_rfl) (by kernel_rfl) (by kernel_rfl) (by kernel_rfl) (fun _ _ _ h => h) (by rfl) ?_ (by assumption) ?_
            rotate_left
            · intro w hSw; (try dsimp only at hSw); go_simp; try (with_reducible rfl)
            try simp only [Act.put, List.setIfInBounds_toArray, List.set_cons_zero, List.set_cons_succ]
            refine GoE.take (i := 9) (v := ?_) rfl (by decide) (by kernel_rfl) (by kernel_rfl) (by kernel_rfl) (by kernel_rfl) (fun _ _ _ h => h) (by rfl) ?_ (by assumption) ?_
            rotate_left
            · intro w hSw; (try dsimp only at hSw); go_simp; try (with_reducible rfl)
            try simp only [Act.put, List.setIfInBounds_toArray, List.set_cons_zero, List.set_cons_succ]
            refine GoE.one (i := 10) rfl (by kernel_rfl) (fun K hK => ?_)
            go_simp
            refine hK.out _ _ (fun h => absurd rfl h) ?_
            clear hK K
            try simp only [Act.put, List.setIfInBounds_toArray, List.set_cons_zero, List.set_cons_succ]
            refine GoE.done (by kernel_rfl) ?_
            have h6 := SatL.set ((SatL.tail h5.swap).pull 2 : SatL w5 (cl db _ _ :: _)) (i := 6) (.slice va (rs.length + 1) vc)
            have h7 : SatL (w5.setCell ⟨db, 6, none⟩ (.slice va (rs.length + 1) vc)) (cl db 89 (xdrvV mb o N c d.r (.slice (some ⟨bb, bo, none⟩) d.r.n bc) (.slice va (rs.length + 1) vc)).toArray :: _) := h6
            have H7 := hid h7
            clear hK hsrc hone S1 S2 S3 x6 y6 x0 x1 h5 h6 h7 b1 b2
            generalize w5.setCell ⟨db, 6, none⟩ (.slice va (rs.length + 1) vc) = wF at *
            obtain ⟨c0, c1, c2, c4, c6, f6, f4⟩ := hcl1.out _ _ _ H7.out
            go_upto_region 33 with fail
            go_quiet (fail)
            have h8 := (sat_dn.2 H7.out : SatL (wF.drewN nq) _)
            clear H7 c0 c1 c2 c4 c6 f6 f4 w1 w2
            generalize wF.drewN nq = wG at *
            have h9 := sat_drew.2 (h8.pull 2)
            have k1 := s1.out _ _ h9
            obtain ⟨c0, c1, c2, c4, c6, f6, f4⟩ := hcl1.out _ _ _ (h9.pull 1)
            obtain ⟨g0, g1, _, _⟩ := hcc.out _ _ _ _ (h9.pull 5)
            have S1 : wG.drew.cell? ⟨db, 0, none⟩ = some (.slice (some ⟨mb, o, none⟩) N c) ∧ wG.drew.cell? ⟨db, 4, none⟩ = some (.int .i64 d.r.off) ∧ wG.drew.cell? ⟨db, 2, none⟩ = some (.int .i64 d.r.n) ∧ wG.drew.cell? ⟨cb, 0, none⟩ = some (.int .i64 (h0 : Nat)) := ⟨c0, c4, c2, g0⟩
            clear h8 h9 c0 c1 c2 c4 c6 f6 f4 g0 g1 s1
            go_upto_region 34 with fail
            refine GoE.start (fun w' => w'.cell? ⟨db, 0, none⟩ = some (.slice (some ⟨mb, o, none⟩) N c) ∧ w'.cell? ⟨db, 4, none⟩ = some (.int .i64 d.r.off) ∧ w'.cell? ⟨db, 2, none⟩ = some (.int .i64 d.r.n) ∧ w'.cell? ⟨cb, 0, none⟩ = some (.int .i64 (h0 : Nat))) 19 20 rfl (by kernel_rfl) ?_
            refine GoE.take (i := 0) (v := ?_) rfl (by decide) (by kernel_rfl) (by kernel_rfl) (by kernel_rfl) (by kernel_rfl) (fun _ _ _ h => h) (by rfl) ?_ (by assumption) ?_
            rotate_left
            · intro w hSw; (try dsimp only at hSw); go_simp; try (with_reducible rfl)
            try simp only [Act.put, List.setIfInBounds_toArray, List.set_cons_zero, List.set_cons_succ]
            refine GoE.take (i := 1) (v := ?_) rfl (by decide) (by kernel_rfl) (by kernel_rfl) (by kernel_rfl) (by kernel_rfl) (fun _ _ _ h => h) (by rfl) ?_ (by assumption) ?_
            rotate_left
            · intro w hSw; (try dsimp only at hSw); go_simp; try (with_reducible rfl)
            try simp only [Act.put, List.setIfInBounds_toArray, List.set_cons_zero, List.set_cons_succ]
            refine GoE.take (i := 2) (v := ?_) rfl (by decide) (by kernel_rfl) (by kernel_rfl) (by kernel_rfl) (by kernel_rfl) (fun _ _ _ h => h) (by rfl) ?_ (by assumption) ?_
            rotate_left
            · intro w hSw; (try dsimp only at hSw); go_simp; try (with_reducible rfl)
            try simp only [Act.put, List.setIfInBounds_toArray, List.set_cons_zero, List.set_cons_succ]
            refine GoE.take (i := 3) (v := ?_) rfl (by decide) (by kernel_rfl) (by kernel_rfl) (by kernel_rfl) (by kernel_rfl) (fun _ _ _ h => h) (by rfl) ?_ (by assumption) ?_
            rotate_left
            · intro w hSw; (try dsimp only at hSw); go_simp; try (with_reducible rfl)
            try simp only [Act.put, List.setIfInBounds_toArray, List.set_cons_zero, List.set_cons_succ]
            refine GoE.take (i := 4) (v := ?_) rfl (by decide) (by kernel_rfl) (by kernel_rfl) (by kernel_rfl) (by kernel_rfl) (fun _ _ _ h => h) (by rfl) ?_ (by assumption) ?_
            rotate_left
            · intro w hSw; (try dsimp only at hSw); go_simp; try (with_reducible rfl)
            try simp only [Act.put, List.setIfInBounds_toArray, List.set_cons_zero, List.set_cons_succ]
            refine GoE.take (i := 5) (v := ?_) rfl (by decide) (by kernel_rfl) (by kernel_rfl) (by kernel_rfl) (by kernel_rfl) (fun _ _ _ h => h) (by rfl) ?_ (by assumption) ?_
            rotate_left
            · intro w hSw; (try dsimp only at hSw); go_simp; try (with_reducible rfl)
            try simp only [Act.put, List.setIfInBounds_toArray, List.set_cons_zero, List.set_cons_succ]
            refine GoE.take (i := 6) (v := ?_) rfl (by decide) (by kernel_rfl) (by kernel_rfl) (by kernel_rfl) (by kernel_rfl) (fun _ _ _ h => h) (by rfl) ?_ (by assumption) ?_
            rotate_left
            · intro w hSw; (try dsimp only at hSw); go_simp; try (with_reducible rfl)
            try simp only [Act.put, List.setIfInBounds_toArray, List.set_cons_zero, List.set_cons_succ]
            refine GoE.take (i := 7) (v := ?_) rfl (by decide) (by kernel_rfl) (by kernel_rfl) (by kernel_rfl) (by kernel_rfl) (fun _ _ _ h => h) (by rfl) ?_ (by assumption) ?_
            rotate_left
            · intro w hSw; (try dsimp only at hSw); go_simp; try (with_reducible rfl)
            try simp only [Act.put, List.setIfInBounds_toArray, List.set_cons_zero, List.set_cons_succ]
            refine GoE.take (i := 8) (v := ?_) rfl (by decide) (by kernel_rfl) (by kernel_rfl) (by kernel_rfl) (by kernel_rfl) (fun _ _ _ h => h) (by rfl) ?_ (by assumption) ?_
            rotate_left
            · intro w hSw; (try dsimp only at hSw); go_simp; try (with_reducible rfl)
            try simp only [Act.put, List.setIfInBounds_toArray, List.set_cons_zero, List.set_cons_succ]
            refine GoE.take (i := 9) (v := ?_) rfl (by decide) (by kernel_rfl) (by kernel_rfl) (by kernel_rfl) (by kernel_rfl) (fun _ _ _ h => h) (by rfl) ?_ (by assumption) ?_
            rotate_left
            · intro w hSw; (try dsimp only at hSw); go_simp; try (with_reducible rfl)
            try simp only [Act.put, List.setIfInBounds_toArray, List.set_cons_zero, List.set_cons_succ]
            refine GoE.take (i := 10) (v := ?_) rfl (by decide) (by kernel_rfl) (by kernel_rfl) (by kernel_rfl) (by kernel_rfl) (fun _ _ _ h => h) (by rfl) ?_ (by assumption) ?_
            rotate_left
            · intro w hSw; (try dsimp only at hSw); go_simp; try (with_reducible rfl)
            try simp only [Act.put, List.setIfInBounds_toArray, List.set_cons_zero, List.set_cons_succ]
            refine GoE.take (i := 11) (v := ?_) rfl (by decide) (by kernel_rfl) (by kernel_rfl) (by kernel_rfl) (by kernel_rfl) (fun _ _ _ h => h) (by rfl) ?_ (by assumption) ?_
            rotate_left
            · intro w hSw; (try dsimp only at hSw); go_simp; try (with_reducible rfl)
            try simp only [Act.put, List.setIfInBounds_toArray, List.set_cons_zero, List.set_cons_succ]
            refine GoE.take (i := 12) (v := ?_) rfl (by decide) (by kernel_rfl) (by kernel_rfl) (by kernel_rfl) (by kernel_rfl) (fun _ _ _ h => h) (by rfl) ?_ (by assumption) ?_
            rotate_left
            · intro w hSw; (try dsimp only at hSw); go_simp; try (with_reducible rfl)
            try simp only [Act.put, List.setIfInBounds_toArray, List.set_cons_zero, List.set_cons_succ]
            refine GoE.take (i := 13) (v := ?_) rfl (by decide) (by kernel_rfl) (by kernel_rfl) (by kernel_rfl) (by kernel_rfl) (fun _ _ _ h => h) (by rfl) ?_ (by assumption) ?_
            rotate_left
            · intro w hSw; (try dsimp only at hSw); go_simp; try (with_reducible rfl)
            try simp only [Act.put, List.setIfInBounds_toArray, List.set_cons_zero, List.set_cons_succ]
            refine GoE.take (i := 14) (v := ?_) rfl (by decide) (by kernel_rfl) (by kernel_rfl) (by kernel_rfl) (by kernel_rfl) (fun _ _ _ h => h) (by rfl) ?_ (by assumption) ?_
            rotate_left
            · intro w hSw; (try dsimp only at hSw); go_simp; try (with_reducible rfl)
            try simp only [Act.put, List.setIfInBounds_toArray, List.set_cons_zero, List.set_cons_succ]
            refine GoE.take (i := 15) (v := ?_) rfl (by decide) (by kernel_rfl) (by kernel_rfl) (by kernel_rfl) (by kernel_rfl) (fun _ _ _ h => h) (by rfl) ?_ (by assumption) ?_
            rotate_left
            · intro w hSw; (try dsimp only at hSw); go_simp; try (with_reducible rfl)
            try simp only [Act.put, List.setIfInBounds_toArray, List.set_cons_zero, List.set_cons_succ]
            refine GoE.take (i := 16) (v := ?_) rfl (by decide) (by kernel_rfl) (by kernel_rfl) (by kernel_rfl) (by kernel_rfl) (fun _ _ _ h => h) (by rfl) ?_ (by assumption) ?_
            rotate_left
            · intro w hSw; (try dsimp only at hSw); go_simp; try (with_reducible rfl)
            try simp only [Act.put, List.setIfInBounds_toArray, List.set_cons_zero, List.set_cons_succ]
            refine GoE.take (i := 17) (v := ?_) rfl (by decide) (by kernel_rfl) (by kernel_rfl) (by kernel_rfl) (by kernel_rfl) (fun _ _ _ h => h) (by rfl) ?_ (by assumption) ?_
            rotate_left
            · intro w hSw; (try dsimp only at hSw); go_simp; try (with_reducible rfl)
            try simp only [Act.put, List.setIfInBounds_toArray, List.set_cons_zero, List.set_cons_succ]
            refine GoE.take (i := 18) (v := ?_) rfl (by decide) (by kernel_rfl) (by kernel_rfl) (by kernel_rfl) (by kernel_rfl) (fun _ _ _ h => h) (by rfl) ?_ (by assumption) ?_
            rotate_left
            · intro w hSw; (try dsimp only at hSw); go_simp; try (with_reducible rfl)
            try simp only [Act.put, List.setIfInBounds_toArray, List.set_cons_zero, List.set_cons_succ]
            refine GoE.one (i := 19) rfl (by kernel_rfl) (fun K hK => ?_)
            go_simp
            go_at_call 42
            (with_reducible refine (k1).mono ?_)
            rintro e w9 ⟨v, rfl, h9⟩
            go_wp2_with fail
            refine hK.out _ _ (fun h => absurd rfl h) ?_
            clear hK K
            try simp only [Act.put, List.setIfInBounds_toArray, List.set_cons_zero, List.set_cons_succ]
            refine GoE.done (by kernel_rfl) ?_
            clear k1 S1 w3 w4 ww5 w7 e1 e2 hqn
            obtain ⟨c0, c1, c2, c4, c6, f6, f4⟩ := hcl1.out _ _ _ (h9.pull 1)
            obtain ⟨e3, e4⟩ := E34.out
            have h10 := hsetc.out _ _ _ (h9.pull 1)
            clear h9
            go_upto_region 36 with fail
            clear c0 c1 c2 c4 c6 f6 f4 e3 e4 E34
            have h11 := sat_drew.2 h10
            obtain ⟨c0, c4⟩ := hcl2.out _ _ _ h11
            have k2 := s2.out _ _ h11.swap
            have S2 := And.intro c0 c4
            clear h10 h11 c0 c4 s2
            refine GoE.start (fun w' => w'.cell? ⟨db, 0, none⟩ = some (.slice (some ⟨mb, o, none⟩) N c) ∧ w'.cell? ⟨db, 4, none⟩ = some (.int .i64 (ro : Nat))) 10 11 rfl (by kernel_rfl) ?_
            refine GoE.take (i := 0) (v := ?_) rfl (by decide) (by kernel_rfl) (by kernel_rfl) (by kernel_rfl) (by kernel_rfl) (fun _ _ _ h => h) (by rfl) ?_ (by assumption) ?_
            rotate_left
            · intro w hSw; (try dsimp only at hSw); go_simp; try (with_reducible rfl)
            try simp only [Act.put, List.setIfInBounds_toArray, List.set_cons_zero, List.set_cons_succ]
            refine GoE.take (i := 1) (v := ?_) rfl (by decide) (by kernel_rfl) (by kernel_rfl) (by kernel_rfl) (by kernel_rfl) (fun _ _ _ h => h) (by rfl) ?_ (by assumption) ?_
            rotate_left
            · intro w hSw; (try dsimp only at hSw); go_simp; try (with_reducible rfl)
            try simp only [Act.put, List.setIfInBounds_toArray, List.set_cons_zero, List.set_cons_succ]
            refine GoE.take (i := 2) (v := ?_) rfl (by decide) (by kernel_rfl) (by kernel_rfl) (by kernel_rfl) (by kernel_rfl) (fun _ _ _ h => h) (by rfl) ?_ (by assumption) ?_
            rotate_left
            · intro w hSw; (try dsimp only at hSw); go_simp; try (with_reducible rfl)
            try simp only [Act.put, List.setIfInBounds_toArray, List.set_cons_zero, List.set_cons_succ]
            refine GoE.take (i := 3) (v := ?_) rfl (by decide) (by kernel_rfl) (by kernel_rfl) (by kernel_rfl) (by kernel_rfl) (fun _ _ _ h => h) (by rfl) ?_ (by assumption) ?_
            rotate_left
            · intro w hSw; (try dsimp only at hSw); go_simp; try (with_reducible rfl)
            try simp only [Act.put, List.setIfInBounds_toArray, List.set_cons_zero, List.set_cons_succ]
            refine GoE.take (i := 4) (v := ?_) rfl (by decide) (by kernel_rfl) (by kernel_rfl) (by kernel_rfl) (by kernel_rfl) (fun _ _ _ h => h) (by rfl) ?_ (by assumption) ?_
            rotate_left
            · intro w hSw; (try dsimp only at hSw); go_simp; try (with_reducible rfl)
            try simp only [Act.put, List.setIfInBounds_toArray, List.set_cons_zero, List.set_cons_succ]
            refine GoE.take (i := 5) (v := ?_) rfl (by decide) (by kernel_rfl) (by kernel_rfl) (by kernel_rfl) (by kernel_rfl) (fun _ _ _ h => h) (by rfl) ?_ (by assumption) ?_
            rotate_left
            · intro w hSw; (try dsimp only at hSw); go_simp; try (with_reducible rfl)
            try simp only [Act.put, List.setIfInBounds_toArray, List.set_cons_zero, List.set_cons_succ]
            refine GoE.take (i := 6) (v := ?_) rfl (by decide) (by kernel_rfl) (by kernel_rfl) (by kernel_rfl) (by kernel_rfl) (fun _ _ _ h => h) (by rfl) ?_ (by assumption) ?_
            rotate_left
            · intro w hSw; (try dsimp only at hSw); go_simp; try (with_reducible rfl)
            try simp only [Act.put, List.setIfInBounds_toArray, List.set_cons_zero, List.set_cons_succ]
            refine GoE.take (i := 7) (v := ?_) rfl (by decide) (by kernel_rfl) (by kernel_rfl) (by kernel_rfl) (by kernel_rfl) (fun _ _ _ h => h) (by rfl) ?_ (by assumption) ?_
            rotate_left
            · intro w hSw; (try dsimp only at hSw); go_simp; try (with_reducible rfl)
            try simp only [Act.put, List.setIfInBounds_toArray, List.set_cons_zero, List.set_cons_succ]
            refine GoE.take (i := 8) (v := ?_) rfl (by decide) (by kernel_rfl) (by kernel_rfl) (by kernel_rfl) (by kernel_rfl) (fun _ _ _ h => h) (by rfl) ?_ (by assumption) ?_
            rotate_left
            · intro w hSw; (try dsimp only at hSw); go_simp; try (with_reducible rfl)
            try simp only [Act.put, List.setIfInBounds_toArray, List.set_cons_zero, List.set_cons_succ]
            refine GoE.take (i := 9) (v := ?_) rfl (by decide) (by kernel_rfl) (by kernel_rfl) (by kernel_rfl) (by kernel_rfl) (fun _ _ _ h => h) (by rfl) ?_ (by assumption) ?_
            rotate_left
            · intro w hSw; (try dsimp only at hSw); go_simp; try (with_reducible rfl)
            try simp only [Act.put, List.setIfInBounds_toArray, List.set_cons_zero, List.set_cons_succ]
            refine GoE.one (i := 10) rfl (by kernel_rfl) (fun K hK => ?_)
            go_simp
            go_at_call 42
            (with_reducible refine (k2).mono ?_)
            rintro e wH ⟨v, rfl, h12⟩
            go_wp2_with fail
            refine hK.out _ _ (fun h => absurd rfl h) ?_
            clear hK K
            try simp only [Act.put, List.setIfInBounds_toArray, List.set_cons_zero, List.set_cons_succ]
            refine GoE.done (by kernel_rfl) ?_
            obtain ⟨g0, g1, _, _⟩ := hcc.out _ _ _ _ (h12.pull 5)
            clear k2 S2 w6
            have h13 := SatL.tail (h12.pull 5)
            obtain ⟨he1, he2⟩ := HE.out
            have h14 := big_append.2 (SatL.swap ((big_cons (f := fun r : Rf (List Nat) => NatsL r.v r.xs) (x := ⟨(h0 : Int), .slice (some ⟨lb, lo, none⟩) l.length cap, ch⟩) (xs := [])).2 (SatL.swap (big_nil.2 (h13.bring [4, 5])))))
            have e9 : SlK 95 2 (.slice va (rs.length + 1) vc) (rs.length + 1) (chRow rs ++ [.int .i64 (h0 : Nat), .slice (some ⟨lb, lo, none⟩) l.length cap]) = ChL (.slice va (rs.length + 1) vc) (rs ++ [⟨(h0 : Int), .slice (some ⟨lb, lo, none⟩) l.length cap, ch⟩]) := by
              unfold ChL; rw [chRow_append, List.length_append]; rfl
            have h15 := h14.bring [2, 4, 3, 0, 1]
            have hfin : SatL wH (XDrvR db mb o N c ⟨d.r.step, setbusy d.busy ch, upo d.ch (h0 : Int) ch⟩ :: SlB 5 (.slice (some ⟨mb, o, none⟩) N c) M2 :: L) := sat_XDrvR.2 ⟨_, _, rs ++ [⟨(h0 : Int), .slice (some ⟨lb, lo, none⟩) l.length cap, ch⟩], ⟨by rw [Hch3.out]; exact he1.symm, he2⟩, by rw [← e9]; exact h15⟩
            have hres := Hres4.out
            subst hres
            have Hfin := hid hfin
            clear h12 h13 h14 h15 hfin e9 he1 he2 HE
            go_wp2
            go_ret2
            exact Ret.mk ⟨rfl, Hfin.out⟩
end
end Go.Proofs.Ytnniipeoahpkcaa
