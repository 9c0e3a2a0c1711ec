/- Add: a chain is offered. No condition beside the sizes that each names. -/
import Derived.Test.YtnniipeoahpkcaaVqF
namespace Go.Proofs.Ytnniipeoahpkcaa
set_option linter.unusedVariables false
set_option linter.unusedSimpArgs false
open Go.RowKit
section
variable {w : World} {L : List HP} {db mb o N c : Nat} {d : Dr} {m : List UInt8}
theorem elem_int : ElemOk Try.prog 55 3 1 8 [Value.int .i64 0] := .of (z := Value.int .i64 0) (by kernel_rfl) (by kernel_rfl) rfl rfl (by decide) (by simp [Value.oneCell'])
theorem bad_any {l : List Bf} {j : Nat} {x : Bf} (h : l[j]? = some x) (hb : x.bad = true) : l.any Bf.bad = true := List.any_eq_true.2 ⟨x, List.mem_of_getElem? h, hb⟩
theorem bad_none {l : List Bf} (h : ∀ q x, q < l.length → l[q]? = some x → x.bad = false) : l.any Bf.bad = false := by
  rw [List.any_eq_false]
  intro x hx
  obtain ⟨q, hq, e⟩ := List.getElem_of_mem hx
  rw [h q x hq (List.getElem?_eq_some_iff.2 ⟨hq, e⟩)]; simp
set_option maxRecDepth 100000 in
set_option maxHeartbeats 4000000 in
theorem add_ok {a : Option Addr} {cc : Nat} {l : List Bf} (ok : DrOk d m.length) (hm : m.length ≤ 1000000) (h : SatL w (DrvR db mb o d :: SlB 5 (.slice (some ⟨mb, o, none⟩) N c) m :: L)) (hB : ∀ x ∈ l, x.addr ≤ 9223372036854775807) (g : Gives L (BRow a l)) :
    Calls Try.prog 12 #[.pointer (some ⟨db, 0, none⟩), .slice a l.length cc] w (Ret fun v w' => v = .tuple #[.int .i64 (d.add m l).h, .int .i64 (d.add m l).e] ∧ SatL w' (DrvR db mb o (d.add m l).d :: SlB 5 (.slice (some ⟨mb, o, none⟩) N c) (d.add m l).m :: L)) := by
  have hres : d.add m l = if l.length = 0 ∨ l.any Bf.bad = true then ⟨0, 1, d, m⟩ else if free d.busy < l.length then ⟨0, 7, d, m⟩ else
    ⟨(chainOf d.busy l.length).getD 0 0, 0, d.put (chainOf d.busy l.length), d.putM m (chainOf d.busy l.length) l⟩ := rfl
  generalize d.add m l = res at *
  by_cases hl0 : l.length = 0
  · rw [if_pos (.inl hl0)] at hres
    subst hres
    rw [hl0]
    clear hl0 g ok
    go_enter Try.func12, Try.ntmps12
    go_wp2
    go_ret2
    exact Ret.mk ⟨rfl, h⟩
  have hlp : 0 < l.length := by omega
  obtain ⟨ab, ao, rfl, hx⟩ := (g w h.tail.tail).2 hlp
  clear hx
  have hlm := (g w h.tail.tail).1
  have hrow := hid (fun (w' : World) (h' : SatL w' L) => (by
    obtain ⟨_, hc⟩ := g w' h'
    obtain ⟨b', o', e, hc⟩ := hc hlp
    cases e
    exact hc : ∀ i x, l[i]? = some x → w'.cell? ⟨ab, ao + i * 3, none⟩ = some (.int .i64 x.addr) ∧ w'.cell? ⟨ab, ao + i * 3 + 1, none⟩ = some (.int .i64 x.len) ∧ w'.cell? ⟨ab, ao + i * 3 + 2, none⟩ = some (.bool x.wr)))
  have hfr := hid (fun (w' : World) (X : List HP) (h : SatL w' (DrvR db mb o d :: X)) => free_eq ok h)
  have Hres := hid hres
  have Ok := hid ok
  have H0 := hid h
  have hlz : ¬ (l.length : Int) = 0 := by omega
  clear g hres ok h
  go_enter Try.func12, Try.ntmps12
  go_wp2
  go_loopw [20] (fun i wr => ∃ j : Nat, j ≤ l.length ∧ i = .int .i64 j ∧ (∀ q x, q < j → l[q]? = some x → x.bad = false) ∧ SatL wr (DrvR db mb o d :: SlB 5 (.slice (some ⟨mb, o, none⟩) N c) m :: L)) (fun i _ => l.length - (intOf i).toNat)
  case atStart => exact ⟨0, by omega, rfl, fun q x hq => by omega, H0.out⟩
  case round =>
    clear H0
    obtain ⟨j, hj, rfl, hgood, hs⟩ := hrel
    have Hgood := hid hgood
    clear hgood
    by_cases hlt : j < l.length
    · obtain ⟨x, hx⟩ : ∃ x, l[j]? = some x := ⟨_, List.getElem?_eq_getElem hlt⟩
      obtain ⟨r0, r1, r2⟩ := hrow.out wr hs.tail.tail j x hx
      have hs1 := hs.alloc (.cells #[.int .i64 x.addr, .int .i64 x.len, .bool x.wr] 36)
      have e0 := SatL.cell (hs1 : SatL _ (cl _ _ _ :: _)) (i := 0) (v := .int .i64 x.addr) rfl
      have e1 := SatL.cell (hs1 : SatL _ (cl _ _ _ :: _)) (i := 1) (v := .int .i64 x.len) rfl
      have hjz : (j : Int) < l.length := by omega
      have Hx := hid hx
      have Hs := hid (SatL.tail hs1)
      clear hs hs1 hx
      have hbd : x.bad = (decide (x.addr < 0) || decide (x.len < 0) || decide (4294967295 < x.len)) := rfl
      by_cases hbad : x.bad = true
      · have hres := Hres.out
        rw [if_pos (.inr (bad_any Hx.out hbad))] at hres
        subst hres
        clear Hres Hgood
        rw [hbd] at hbad
        generalize x.addr = xa at *
        generalize x.len = xl at *
        generalize x.wr = xw at *
        clear hbd
        rcases Bool.or_eq_true_iff.1 hbad with hb | hb
        · rcases Bool.or_eq_true_iff.1 hb with hb | hb
          · have hb2 := of_decide_eq_true hb
            clear hb hbad
            go_wp2
            go_ret2
            exact Ret.mk ⟨rfl, Hs.out⟩
          · have hb2 := of_decide_eq_true hb
            clear hb hbad
            by_cases hb3 : xa < 0
            · go_wp2
              go_ret2
              exact Ret.mk ⟨rfl, Hs.out⟩
            · go_wp2
              go_ret2
              exact Ret.mk ⟨rfl, Hs.out⟩
        · have hb2 := of_decide_eq_true hb
          clear hb hbad
          have hb4 : ¬ xl < 0 := by omega
          by_cases hb3 : xa < 0
          · go_wp2
            go_ret2
            exact Ret.mk ⟨rfl, Hs.out⟩
          · go_wp2
            go_ret2
            exact Ret.mk ⟨rfl, Hs.out⟩
      · have hbf : x.bad = false := by simpa using hbad
        have Hg2 := hid (show ∀ q y, q < j + 1 → l[q]? = some y → y.bad = false from fun q y hq hy => by
          rcases Nat.lt_or_ge q j with h1 | h1
          · exact Hgood.out q y h1 hy
          · obtain rfl : q = j := by omega
            rw [Hx.out] at hy; cases hy; exact hbf)
        rw [hbd] at hbf
        simp only [Bool.or_eq_false_iff, decide_eq_false_iff_not] at hbf
        obtain ⟨⟨b1, b2⟩, b3⟩ := hbf
        clear hbad hbd Hgood Hx
        generalize x.addr = xa at *
        generalize x.len = xl at *
        generalize x.wr = xw at *
        go_wp2
        go_roundw
        case rel => exact ⟨j + 1, by omega, by go_num, Hg2.out, Hs.out⟩
        case measure => simp [intOf]; omega
    · obtain rfl : j = l.length := by omega
      have hany := bad_none Hgood.out
      have k1 := hfr.out wr _ hs
      by_cases hfull : free d.busy < l.length
      · have hres := Hres.out
        rw [if_neg (by rintro (h | h); exact hl0 h; rw [hany] at h; cases h), if_pos hfull] at hres
        subst hres
        have hfz : (free d.busy : Int) < l.length := by omega
        have Hs := hid hs
        clear Hres Hgood hany hs
        generalize free d.busy = fb at *
        go_wp2_with (first | (go_at_call 16; (with_reducible refine k1.mono ?_); rintro e w2 ⟨v, rfl, rfl, rfl⟩))
        go_ret2
        exact Ret.mk ⟨rfl, Hs.out⟩
      · have hres := Hres.out
        rw [if_neg (by rintro (h | h); exact hl0 h; rw [hany] at h; cases h), if_neg hfull] at hres
        have hfz : ¬ (free d.busy : Int) < l.length := by omega
        have Hres2 := hid hres
        have hbl := Ok.out.len
        have hn := pow2_le Ok.out.rg.pw
        have hff : (freeIdx d.busy d.r.n).length = free d.busy := by rw [← hbl, freeIdx_len _ (Nat.le_refl _), List.take_length]
        have hfb : free d.busy ≤ 256 := by have := free_le d.busy; omega
        obtain ⟨bv, mp, h1⟩ := sat_DrvR.1 hs
        obtain ⟨ba, bc, rfl, lb1, lb2⟩ := Sl.valn (SatL.pull h1 1 : SatL wr (Sl _ _ _ :: _)) (m := d.r.n) (by rw [List.length_map, hbl])
        obtain ⟨bb, bo, rfl⟩ := Sl.addr (SatL.pull h1 1 : SatL wr (Sl _ _ _ :: _)) (by omega)
        have hcl := hid (fun (w' : World) (X : List HP) (h : SatL w' (cl db 69 (ringV mb o d.r ++ [Value.slice (some ⟨bb, bo, none⟩) d.r.n bc, Value.map (some mp)]).toArray :: X)) => drv_cells h)
        have HB := hid hB
        have hset := hid (fun (w' : World) (X : List HP) (M : List UInt8) (hM : M.length = m.length) (a k v : Nat) (hk : sizeOk k) (hv : v < 256 ^ k) (ha : a + k ≤ qs d.r.n) (h : SatL w' (SlB 5 (.slice (some ⟨mb, o, none⟩) N c) M :: cl db 69 (ringV mb o d.r ++ [Value.slice (some ⟨bb, bo, none⟩) d.r.n bc, Value.map (some mp)]).toArray :: X)) => vset_at (base := d.r.base) (n := d.r.n) Ok.out.rg.pw hM Ok.out.rg.fit hk hv ha h (fun w'' h'' => SatL.cell h'' (i := 0) rfl))
        clear hB
        have hgood := hid (fun q x (hq : l[q]? = some x) => Hgood.out q x (List.getElem?_eq_some_iff.1 hq).1 hq)
        have Hbl := hid hbl
        have Hn := hid hn
        have Hff := hid hff
        have Hfull := hid hfull
        have H1 := hid (SlK_nil (T := 3) (k := 1) h1)
        have hlb : l.length ≤ 256 := by omega
        have hnz2 : (d.r.n : Int) ≤ 256 := by omega
        clear Hres Hgood hany hs h1 hres hbl hff hn hfr hlt hj
        generalize free d.busy = fb at *
        go_wp2_with (first | (go_at_call 16; (with_reducible refine k1.mono ?_); rintro e w2 ⟨v, rfl, rfl, rfl⟩))
        clear k1
        go_loopw [8, 9] (fun ch i wr => ∃ j : Nat, j ≤ d.r.n ∧ i = .int .i64 j ∧ (freeIdx d.busy j).length ≤ l.length ∧ SatL wr (NatsL ch (freeIdx d.busy j) :: cl db 69 (ringV mb o d.r ++ [Value.slice (some ⟨bb, bo, none⟩) d.r.n bc, Value.map (some mp)]).toArray :: Sl 4 (.slice (some ⟨bb, bo, none⟩) d.r.n bc) (d.busy.map Value.bool) :: MapF NatsL mp d.ch :: SlB 5 (.slice (some ⟨mb, o, none⟩) N c) m :: L)) (fun _ i _ => d.r.n - (intOf i).toNat)
        case atStart => exact ⟨0, by omega, rfl, by simp [freeIdx], H1.out⟩
        case round =>
          clear H1
          obtain ⟨j, hj, rfl, hle, hs⟩ := hrel
          obtain ⟨ca, cap, rfl, lc1, lc2⟩ := Sl.valn hs (m := (freeIdx d.busy j).length) (by unfold natV; rw [List.length_map])
          have hfj := freeIdx_le (busy := d.busy) (i := j)
          by_cases hlt2 : (freeIdx d.busy j).length < l.length
          · have hjn : j < d.r.n := by
              rcases Nat.lt_or_ge j d.r.n with h | h
              · exact h
              · exfalso
                obtain rfl : j = d.r.n := by omega
                have := Hff.out; have := Hfull.out; omega
            obtain ⟨bj, hbj⟩ : ∃ bj, d.busy[j]? = some bj := ⟨_, List.getElem?_eq_getElem (by rw [Hbl.out]; exact hjn)⟩
            have cj := Sl.cell (hs.pull 2 : SatL wr (Sl _ _ _ :: _)) (i := j) (x := .bool bj) (by rw [List.getElem?_map, hbj]; rfl)
            have hsn := hid (freeIdx_snoc hbj)
            obtain ⟨d0, d1, d2, d3, d4, d5⟩ := hcl.out _ _ (hs.pull 1 : SatL wr (cl _ _ _ :: _))
            have hjz : (j : Int) < d.r.n := by omega
            have hl2z : ((freeIdx d.busy j).length : Int) < l.length := by omega
            have b1 : ((natV (freeIdx d.busy j)).length + 1) * 8 ≤ 140737488355328 := by unfold natV; rw [List.length_map]; omega
            have happ : natV (freeIdx d.busy j) ++ [Value.int .i64 (j : Int)] = natV (freeIdx d.busy j ++ [j]) := by unfold natV; rw [List.map_append]; rfl
            clear hbj
            generalize freeIdx d.busy j = fj at *
            cases bj with
            | true =>
              have Hs := hid hs
              clear hs b1 happ
              go_wp2
              go_roundw
              case rel => exact ⟨j + 1, by omega, by go_num, by rw [hsn.out, if_pos rfl, List.append_nil]; exact hle, by rw [hsn.out, if_pos rfl, List.append_nil]; exact Hs.out⟩
              case measure => simp [intOf]; omega
            | false =>
              have Happ := hid happ
              clear happ
              go_wp2_with (first
                | (at_builtin; refine wpList_push_sl rfl (.tmp 58) (.tmp 60) rfl elem_int (by decide) rfl hs rfl rfl b1 ?_; intro v' w' h2; rw [Happ.out] at h2; obtain ⟨ea, ec, rfl, ec1, ec2⟩ := Sl.valn h2 (m := fj.length + 1) (by unfold natV; rw [List.length_map, List.length_append]; rfl)))
              go_roundw
              case rel => exact ⟨j + 1, by omega, by go_num, by rw [hsn.out, List.length_append]; simp; omega, by rw [hsn.out]; exact h2⟩
              case measure => simp [intOf]; omega
          · have hleq : (freeIdx d.busy j).length = l.length := by omega
            have hch : freeIdx d.busy j = chainOf d.busy l.length := by
              unfold chainOf; rw [← hleq, Hbl.out]; exact freeIdx_pre hj
            rw [hch] at hleq hs lc1
            have hcm := hid (fun i (hi : i ∈ chainOf d.busy l.length) => (by rw [← Hbl.out]; exact chainOf_lt hi : i < d.r.n))
            have hs2 := hs.bring [4, 1, 2, 0, 3]
            have hleq2 := hleq
            have hnd : (SlB 5 (.slice (some ⟨mb, o, none⟩) N c) (descs d.r.base (chainOf d.busy l.length) l m 0)) = SlB 5 (.slice (some ⟨mb, o, none⟩) N c) m := rfl
            have hs3 : SatL wr (SlB 5 (.slice (some ⟨mb, o, none⟩) N c) (descs d.r.base (chainOf d.busy l.length) l m 0) :: cl db 69 (ringV mb o d.r ++ [Value.slice (some ⟨bb, bo, none⟩) d.r.n bc, Value.map (some mp)]).toArray :: Sl 4 (.slice (some ⟨bb, bo, none⟩) d.r.n bc) ((setbusy d.busy ((chainOf d.busy l.length).take 0)).map Value.bool) :: NatsL (.slice ca (chainOf d.busy l.length).length cap) (chainOf d.busy l.length) :: MapF NatsL mp d.ch :: L) := hs2
            rw [hleq] at hs3
            have Hs2 := hid hs3
            have Hleq := hid hleq
            have hcz : ((chainOf d.busy l.length).length : Int) = l.length := by omega
            rw [hch, hleq]
            clear hs hs2 hs3 hnd hleq2 hleq hch hlt2 hfj hle Hff Hfull hfb hcz
            generalize chainOf d.busy l.length = ch at *
            go_wp2
            go_loopw [64] (fun i wr => ∃ k : Nat, k ≤ l.length ∧ i = .int .i64 k ∧ SatL wr (SlB 5 (.slice (some ⟨mb, o, none⟩) N c) (descs d.r.base ch l m k) :: cl db 69 (ringV mb o d.r ++ [Value.slice (some ⟨bb, bo, none⟩) d.r.n bc, Value.map (some mp)]).toArray :: Sl 4 (.slice (some ⟨bb, bo, none⟩) d.r.n bc) ((setbusy d.busy (ch.take k)).map Value.bool) :: NatsL (.slice ca l.length cap) ch :: MapF NatsL mp d.ch :: L)) (fun i _ => l.length - (intOf i).toNat)
            case atStart => exact ⟨0, by omega, rfl, Hs2.out⟩
            case round =>
              clear Hs2
              obtain ⟨k, hk, rfl, hs⟩ := hrel
              by_cases hlt : k < l.length
              · obtain ⟨x, hx⟩ : ∃ x, l[k]? = some x := ⟨_, List.getElem?_eq_getElem hlt⟩
                obtain ⟨ck, hck⟩ : ∃ ck, ch[k]? = some ck := ⟨_, List.getElem?_eq_getElem (by rw [Hleq.out]; exact hlt)⟩
                obtain ⟨r0, r1, r2⟩ := hrow.out wr hs.tail.tail.tail.tail.tail k x hx
                have hxb := hgood.out k x hx
                have hckn : ck < d.r.n := hcm.out ck (List.mem_of_getElem? hck)
                have hs1 := (hs.alloc (.cells #[.int .i64 x.addr, .int .i64 x.len, .bool x.wr] 36)).bring [1, 2, 3, 4, 0]
                have hds : descs d.r.base ch l m (k + 1) = descM (descs d.r.base ch l m k) d.r.base ck x (flagOf x (decide (k + 1 < l.length))) (if k + 1 < l.length then ch.getD (k + 1) 0 else 0) := by
                  show descM _ _ _ _ _ _ = _
                  rw [List.getD_eq_getElem?_getD, hck, List.getD_eq_getElem?_getD, hx]; rfl
                have hsb : setbusy d.busy (ch.take (k + 1)) = (setbusy d.busy (ch.take k)).set ck true := by rw [take_nat hck, setbusy_snoc]
                have hml : (descs d.r.base ch l m k).length = m.length := descs_len (n := d.r.n) (by have := Hn.out; omega) hcm.out Ok.out.rg.fit k
                have hbl : (setbusy d.busy (ch.take k)).length = d.r.n := by rw [setbusy_len]; exact Hbl.out
                obtain ⟨nx, hnx⟩ : ∃ nx, nx = if k + 1 < l.length then ch.getD (k + 1) 0 else 0 := ⟨_, rfl⟩
                have hnx2 : k + 1 < l.length → ch[k + 1]? = some nx := fun h => by
                  rw [if_pos h] at hnx; rw [hnx, List.getD_eq_getElem?_getD]
                  rw [List.getElem?_eq_getElem (by rw [Hleq.out]; exact h)]; rfl
                have hnx3 : nx < 65536 := by
                  by_cases h : k + 1 < l.length
                  · have := hcm.out nx (List.mem_of_getElem? (hnx2 h)); have := Hn.out; omega
                  · rw [if_neg h] at hnx; omega
                rw [← hnx] at hds
                obtain ⟨fl, hfl⟩ : ∃ fl, fl = flagOf x (decide (k + 1 < l.length)) := ⟨_, rfl⟩
                have hfl2 : fl = (if k + 1 < l.length then 1 else 0) + (if x.wr then 2 else 0) := by rw [hfl]; unfold flagOf; simp
                rw [← hfl] at hds
                have Hds := hid hds
                have Hsb := hid hsb
                have Hnx := hid hnx
                have Hnx2 := hid hnx2
                clear hds hsb hfl hnx hnx2
                generalize descs d.r.base ch l m k = M at *
                generalize setbusy d.busy (ch.take k) = B at *
                have hxa : 0 ≤ x.addr ∧ 0 ≤ x.len ∧ x.len ≤ 4294967295 := by
                  have hbd : x.bad = (decide (x.addr < 0) || decide (x.len < 0) || decide (4294967295 < x.len)) := rfl
                  rw [hbd] at hxb
                  simp only [Bool.or_eq_false_iff, decide_eq_false_iff_not] at hxb
                  omega
                obtain ⟨pa, hpa⟩ := Int.eq_ofNat_of_zero_le hxa.1
                obtain ⟨pl, hpl⟩ := Int.eq_ofNat_of_zero_le hxa.2.1
                have hpb : pa ≤ 9223372036854775807 := by have := HB.out x (List.mem_of_getElem? hx); omega
                have hplb : pl ≤ 4294967295 := by omega
                have Hds2 := hid (by have e := Hds.out; unfold descM at e; rw [hpa, hpl, Int.toNat_natCast, Int.toNat_natCast] at e; exact e)
                rw [hpa] at r0 hs1
                rw [hpl] at r1 hs1
                have Hx := hid hx
                have Hml := hid hml
                have Hs1 := hid hs1
                have e0 := SatL.cell (hs1.pull 4 : SatL _ (cl _ _ _ :: _)) (i := 0) (v := .int .i64 pa) rfl
                have e1 := SatL.cell (hs1.pull 4 : SatL _ (cl _ _ _ :: _)) (i := 1) (v := .int .i64 pl) rfl
                have e2 := SatL.cell (hs1.pull 4 : SatL _ (cl _ _ _ :: _)) (i := 2) (v := .bool x.wr) rfl
                have hkz : (k : Int) < l.length := by omega
                have hck2 := hid hck
                clear hpa hpl Hds hxa hxb hs hx hml hck
                generalize x.wr = xw at *
                have hkb : k ≤ 256 := by omega
                go_upto_if 73 with fail
                go_cut [12, 13] from 74 to 78 (fun f t wx => f = .int .i64 ((if k + 1 < l.length then 1 else 0 : Nat) : Nat) ∧ t = .int .i64 nx ∧ SatL wx (SlB 5 (.slice (some ⟨mb, o, none⟩) N c) M :: cl db 69 (ringV mb o d.r ++ [Value.slice (some ⟨bb, bo, none⟩) d.r.n bc, Value.map (some mp)]).toArray :: Sl 4 (.slice (some ⟨bb, bo, none⟩) d.r.n bc) (B.map Value.bool) :: NatsL (.slice ca l.length cap) ch :: cl wr.heap.size 36 #[.int .i64 pa, .int .i64 pl, .bool xw] :: MapF NatsL mp d.ch :: L))
                case first =>
                  by_cases hmore : k + 1 < l.length
                  · have hn3 := (Hs1.out.pull 3 : SatL _ (Sl _ _ _ :: _))
                    obtain ⟨cb, co, rfl⟩ := Sl.addr hn3 hlp
                    have cn := Sl.cell hn3 (i := k + 1) (x := .int .i64 (nx : Nat)) (by unfold natV; rw [List.getElem?_map, Hnx2.out hmore]; rfl)
                    have hmz : (k : Int) + 1 < l.length := by omega
                    have hmz3 : ((k + 1 : Nat) : Int) = (k : Int) + 1 := by omega
                    have cn2 := cn
                    rw [← Nat.add_assoc] at cn2
                    have hmn : decide ((k : Int) + 1 < l.length) = true := decide_eq_true hmz
                    have wk : IntKind.i64.wrap ((k : Int) + 1) = (k : Int) + 1 := IntWalk.i64_in _ (by omega)
                    have tk : ((k : Int) + 1).toNat = k + 1 := by omega
                    clear hn3 hmz3
                    go_upto_region 22 with fail
                    go_quiet (fail)
                    go_wp2_with fail
                    go_meet
                    exact ⟨by rw [if_pos hmore]; rfl, rfl, sat_dn.2 Hs1.out⟩
                  · have hmz : ¬ (k : Int) + 1 < l.length := by omega
                    have hn0 : nx = 0 := by rw [Hnx.out, if_neg hmore]
                    subst hn0
                    go_wp2_with fail
                    go_meet
                    exact ⟨by rw [if_neg hmore]; rfl, rfl, Hs1.out⟩
                case rest =>
                obtain ⟨rfl, rfl, H3⟩ := hcut
                have f2 := SatL.cell (H3.pull 4 : SatL _ (cl _ _ _ :: _)) (i := 2) (v := .bool xw) rfl
                have H3' := hid H3
                clear H3 Hs1 Hnx Hnx2 r0 r1 r2 e0 e1 e2
                go_upto_if 80 with fail
                go_cut [12] from 81 to 82 (fun f wx => f = .int .i64 (fl : Nat) ∧ wx = wc)
                case first =>
                  have b1 : bits .or .i64 1 2 = 3 := by decide
                  have b2 : bits .or .i64 0 2 = 2 := by decide
                  by_cases hmore : k + 1 < l.length
                  · rw [if_pos hmore] at hfl2 ⊢
                    cases xw with
                    | true =>
                      obtain rfl : fl = 3 := hfl2
                      go_wp2_with fail
                      go_meet
                      exact ⟨rfl, rfl⟩
                    | false =>
                      obtain rfl : fl = 1 := hfl2
                      go_wp2_with fail
                      go_meet
                      exact ⟨rfl, rfl⟩
                  · rw [if_neg hmore] at hfl2 ⊢
                    cases xw with
                    | true =>
                      obtain rfl : fl = 2 := hfl2
                      go_wp2_with fail
                      go_meet
                      exact ⟨rfl, rfl⟩
                    | false =>
                      obtain rfl : fl = 0 := hfl2
                      go_wp2_with fail
                      go_meet
                      exact ⟨rfl, rfl⟩
                case rest =>
                obtain ⟨rfl, rfl⟩ := hcut
                have hfl3 : fl ≤ 3 := by rw [hfl2]; split <;> split <;> omega
                clear hfl2 f2
                have hn3 := (H3'.out.pull 3 : SatL _ (Sl _ _ _ :: _))
                obtain ⟨cb, co, rfl⟩ := Sl.addr hn3 hlp
                have hkbz : (k : Int) ≤ 256 := by omega
                have hckb : ck ≤ 256 := by have := Hn.out; omega
                have hckz : (ck : Int) ≤ 256 := by omega
                have hcknz : (ck : Int) < d.r.n := by omega
                have hcell := hid (fun (w' : World) (X : List HP) (h : SatL w' (NatsL (.slice (some ⟨cb, co, none⟩) l.length cap) ch :: X)) => (Sl.cell h (i := k) (x := .int .i64 (ck : Nat)) (by unfold natV; rw [List.getElem?_map, hck2.out]; rfl) : w'.cell? ⟨cb, co + k, none⟩ = some (.int .i64 (ck : Int))))
                have cn := hcell.out _ _ hn3
                have wck : IntKind.i64.wrap (16 * (ck : Int)) = 16 * (ck : Int) := IntWalk.i64_in _ (by omega)
                clear hn3
                have hd := sat_drew.2 H3'.out
                have hB3 : (B.map Value.bool).length = d.r.n := by rw [List.length_map]; exact hbl
                have hbs := Sl.set (H3'.out.pull 2 : SatL _ (Sl _ _ _ :: _)) (i := ck) (by rw [hB3]; exact hckn) (.bool true)
                have fr := Sl.free (hd.pull 2 : SatL _ (Sl _ _ _ :: _)) (bo + ck)
                obtain ⟨ub, cu⟩ : ∃ u, wc.drew.cell? ⟨bb, bo + ck, none⟩ = some u := ⟨_, Sl.cell (hd.pull 2 : SatL _ (Sl _ _ _ :: _)) (List.getElem?_eq_getElem (show ck < (B.map Value.bool).length by rw [hB3]; exact hckn))⟩
                have S3 : wc.drew.cell? ⟨db, 4, none⟩ = some (.slice (some ⟨bb, bo, none⟩) d.r.n bc) ∧ wc.drew.cell? ⟨cb, co + k, none⟩ = some (.int .i64 (ck : Int)) := ⟨(hcl.out _ _ (hd.pull 1 : SatL _ (cl _ _ _ :: _))).2.2.2.2.1, hcell.out _ _ (hd.pull 3 : SatL _ (Sl _ _ _ :: _))⟩
                have Hbs := hid (hbs.bring [1, 2, 0])
                rw [← List.map_set, ← Hsb.out] at Hbs
                clear hd hbs hB3 hbl Hsb
                go_upto_region 26 with fail
                refine GoE.start (fun w' => w'.cell? ⟨db, 4, none⟩ = some (.slice (some ⟨bb, bo, none⟩) d.r.n bc) ∧ w'.cell? ⟨cb, co + k, none⟩ = some (.int .i64 (ck : Int))) 9 10 rfl (by kernel_rfl) ?_
                refine GoE.take (i := 0) (v := ?_) rfl (by decide) (by kernel_rfl) (by kernel_rfl) (by kernel_rfl) (by kernel_rfl) (fun _ _ _ h => h) (by rfl) ?_ (by assumption) ?_
                rotate_left
                · intro w hSw; (try dsimp only at hSw); go_simp; try (with_reducible rfl)
                try simp only [Act.put, List.setIfInBounds_toArray, List.set_cons_zero, List.set_cons_succ]
                refine GoE.take (i := 1) (v := ?_) rfl (by decide) (by kernel_rfl) (by kernel_rfl) (by kernel_rfl) (by kernel_rfl) (fun _ _ _ h => h) (by rfl) ?_ (by assumption) ?_
                rotate_left
                · intro w hSw; (try dsimp only at hSw); go_simp; try (with_reducible rfl)
                try simp only [Act.put, List.setIfInBounds_toArray, List.set_cons_zero, List.set_cons_succ]
                refine GoE.take (i := 2) (v := ?_) rfl (by decide) (by kernel_rfl) (by kernel_rfl) (by kernel_rfl) (by kernel_rfl) (fun _ _ _ h => h) (by rfl) ?_ (by assumption) ?_
                rotate_left
                · intro w hSw; (try dsimp only at hSw); go_simp; try (with_reducible rfl)
                try simp only [Act.put, List.setIfInBounds_toArray, List.set_cons_zero, List.set_cons_succ]
                refine GoE.take (i := 3) (v := ?_) rfl (by decide) (by kernel_rfl) (by kernel_rfl) (by kernel_rfl) (by kernel_rfl) (fun _ _ _ h => h) (by rfl) ?_ (by assumption) ?_
                rotate_left
                · intro w hSw; (try dsimp only at hSw); go_simp; try (with_reducible rfl)
                try simp only [Act.put, List.setIfInBounds_toArray, List.set_cons_zero, List.set_cons_succ]
                refine GoE.take (i := 4) (v := ?_) rfl (by decide) (by kernel_rfl) (by kernel_rfl) (by kernel_rfl) (by kernel_rfl) (fun _ _ _ h => h) (by rfl) ?_ (by assumption) ?_
                rotate_left
                · intro w hSw; (try dsimp only at hSw); go_simp; try (with_reducible rfl)
                try simp only [Act.put, List.setIfInBounds_toArray, List.set_cons_zero, List.set_cons_succ]
                refine GoE.take (i := 5) (v := ?_) rfl (by decide) (by kernel_rfl) (by kernel_rfl) (by kernel_rfl) (by kernel_rfl) (fun _ _ _ h => h) (by rfl) ?_ (by assumption) ?_
                rotate_left
                · intro w hSw; (try dsimp only at hSw); go_simp; try (with_reducible rfl)
                try simp only [Act.put, List.setIfInBounds_toArray, List.set_cons_zero, List.set_cons_succ]
                refine GoE.take (i := 6) (v := ?_) rfl (by decide) (by kernel_rfl) (by kernel_rfl) (by kernel_rfl) (by kernel_rfl) (fun _ _ _ h => h) (by rfl) ?_ (by assumption) ?_
                rotate_left
                · intro w hSw; (try dsimp only at hSw); go_simp; try (with_reducible rfl)
                try simp only [Act.put, List.setIfInBounds_toArray, List.set_cons_zero, List.set_cons_succ]
                refine GoE.take (i := 7) (v := ?_) rfl (by decide) (by kernel_rfl) (by kernel_rfl) (by kernel_rfl) (by kernel_rfl) (fun _ _ _ h => h) (by rfl) ?_ (by assumption) ?_
                rotate_left
                · intro w hSw; (try dsimp only at hSw); go_simp; try (with_reducible rfl)
                try simp only [Act.put, List.setIfInBounds_toArray, List.set_cons_zero, List.set_cons_succ]
                refine GoE.take (i := 8) (v := ?_) rfl (by decide) (by kernel_rfl) (by kernel_rfl) (by kernel_rfl) (by kernel_rfl) (fun _ _ _ h => h) (by rfl) ?_ (by assumption) ?_
                rotate_left
                · intro w hSw; (try dsimp only at hSw); go_simp; try (with_reducible rfl)
                try simp only [Act.put, List.setIfInBounds_toArray, List.set_cons_zero, List.set_cons_succ]
                refine GoE.one (i := 9) rfl (by kernel_rfl) (fun K hK => ?_)
                go_simp
                refine hK.out _ _ (fun h => absurd rfl h) ?_
                clear hK K
                try simp only [Act.put, List.setIfInBounds_toArray, List.set_cons_zero, List.set_cons_succ]
                refine GoE.done (by kernel_rfl) ?_
                have H5 : SatL (wc.setCell ⟨bb, bo + ck, none⟩ (.bool true)).drew (SlB 5 (.slice (some ⟨mb, o, none⟩) N c) M :: cl db 69 (ringV mb o d.r ++ [Value.slice (some ⟨bb, bo, none⟩) d.r.n bc, Value.map (some mp)]).toArray :: Sl 4 (.slice (some ⟨bb, bo, none⟩) d.r.n bc) ((setbusy d.busy (ch.take (k + 1))).map Value.bool) :: NatsL (.slice (some ⟨cb, co, none⟩) l.length cap) ch :: cl wr.heap.size 36 #[.int .i64 pa, .int .i64 pl, .bool xw] :: MapF NatsL mp d.ch :: L) := sat_drew.2 (Hbs.out)
                clear Hbs S3 fr cu cn H3'
                generalize (wc.setCell ⟨bb, bo + ck, none⟩ (.bool true)).drew = wE at *
                go_upto_region 27 with fail
                have H6 := sat_drew.2 H5
                have k1 := hset.out _ _ M Hml.out (16 * ck) 8 pa (.inr (.inr (.inr rfl))) (by omega) (by show _ ≤ 8 + 26 * d.r.n; omega) H6
                have l1 : (lset M (d.r.base + 16 * ck) 8 pa).length = m.length := by rw [lset_len (by have := Hml.out; have := Ok.out.rg.fit; have hq : qs d.r.n = 8 + 26 * d.r.n := rfl; omega)]; exact Hml.out
                have l2 : (lset (lset M (d.r.base + 16 * ck) 8 pa) (d.r.base + (16 * ck + 8)) 4 pl).length = m.length := by rw [lset_len (by have := l1; have := Ok.out.rg.fit; have hq : qs d.r.n = 8 + 26 * d.r.n := rfl; omega)]; exact l1
                have l3 : (lset (lset (lset M (d.r.base + 16 * ck) 8 pa) (d.r.base + (16 * ck + 8)) 4 pl) (d.r.base + (16 * ck + 12)) 2 fl).length = m.length := by rw [lset_len (by have := l2; have := Ok.out.rg.fit; have hq : qs d.r.n = 8 + 26 * d.r.n := rfl; omega)]; exact l2
                have s2 := hid (fun (w' : World) (X : List HP) => hset.out w' X _ l1 (16 * ck + 8) 4 pl (.inr (.inr (.inl rfl))) (by omega) (by show _ ≤ 8 + 26 * d.r.n; omega))
                have s3 := hid (fun (w' : World) (X : List HP) => hset.out w' X _ l2 (16 * ck + 12) 2 fl (.inr (.inl rfl)) (by omega) (by show _ ≤ 8 + 26 * d.r.n; omega))
                have s4 := hid (fun (w' : World) (X : List HP) => hset.out w' X _ l3 (16 * ck + 14) 2 nx (.inr (.inl rfl)) (by omega) (by show _ ≤ 8 + 26 * d.r.n; omega))
                rw [← Hds2.out] at s4
                rw [show ((16 * ck : Nat) : Int) = 16 * (ck : Int) by omega, show ((8 : Nat) : Int) = 8 from rfl] at k1
                simp only [show ((16 * ck + 8 : Nat) : Int) = 16 * (ck : Int) + 8 by omega, show ((4 : Nat) : Int) = 4 from rfl] at s2
                simp only [show ((16 * ck + 12 : Nat) : Int) = 16 * (ck : Int) + 12 by omega, show ((2 : Nat) : Int) = 2 from rfl] at s3
                simp only [show ((16 * ck + 14 : Nat) : Int) = 16 * (ck : Int) + 14 by omega, show ((2 : Nat) : Int) = 2 from rfl] at s4
                clear l1 l2 l3 Hds2
                obtain ⟨M4, hM4⟩ : ∃ M4, M4 = descs d.r.base ch l m (k + 1) := ⟨_, rfl⟩
                rw [← hM4] at s4
                have HM4 := hid hM4
                clear hM4
                generalize lset (lset (lset M (d.r.base + 16 * ck) 8 pa) (d.r.base + (16 * ck + 8)) 4 pl) (d.r.base + (16 * ck + 12)) 2 fl = M3 at *
                generalize lset (lset M (d.r.base + 16 * ck) 8 pa) (d.r.base + (16 * ck + 8)) 4 pl = M2 at *
                generalize lset M (d.r.base + 16 * ck) 8 pa = M1 at *
                have u1 : IntKind.u64.wrap (pa : Int) = (pa : Int) := u64_in _ (by omega)
                have u2 : IntKind.u64.wrap (pl : Int) = (pl : Int) := u64_in _ (by omega)
                have i8 : IntKind.i64.wrap (16 * (ck : Int) + 8) = 16 * (ck : Int) + 8 := IntWalk.i64_in _ (by omega)
                have hflz : (fl : Int) ≤ 3 := by omega
                have hnxz : (nx : Int) < 65536 := by omega
                have S6 := SatL.cell (H6.pull 4 : SatL _ (cl _ _ _ :: _)) (i := 0) (v := .int .i64 pa) rfl
                have H5' := hid H6
                clear H5 H6
                refine GoE.start (fun w' => w'.cell? ⟨wr.heap.size, 0, none⟩ = some (.int .i64 (pa : Int))) 7 8 rfl (by kernel_rfl) ?_
                refine GoE.take (i := 0) (v := ?_) rfl (by decide) (by kernel_rfl) (by kernel_rfl) (by kernel_rfl) (by kernel_rfl) (fun _ _ _ h => h) (by rfl) ?_ (by assumption) ?_
                rotate_left
                · intro w hSw; (try dsimp only at hSw); go_simp; try (with_reducible rfl)
                try simp only [Act.put, List.setIfInBounds_toArray, List.set_cons_zero, List.set_cons_succ]
                refine GoE.take (i := 1) (v := ?_) rfl (by decide) (by kernel_rfl) (by kernel_rfl) (by kernel_rfl) (by kernel_rfl) (fun _ _ _ h => h) (by rfl) ?_ (by assumption) ?_
                rotate_left
                · intro w hSw; (try dsimp only at hSw); go_simp; try (with_reducible rfl)
                try simp only [Act.put, List.setIfInBounds_toArray, List.set_cons_zero, List.set_cons_succ]
                refine GoE.take (i := 2) (v := ?_) rfl (by decide) (by kernel_rfl) (by kernel_rfl) (by kernel_rfl) (by kernel_rfl) (fun _ _ _ h => h) (by rfl) ?_ (by assumption) ?_
                rotate_left
                · intro w hSw; (try dsimp only at hSw); go_simp; try (with_reducible rfl)
                try simp only [Act.put, List.setIfInBounds_toArray, List.set_cons_zero, List.set_cons_succ]
                refine GoE.take (i := 3) (v := ?_) rfl (by decide) (by kernel_rfl) (by kernel_rfl) (by kernel_rfl) (by kernel_rfl) (fun _ _ _ h => h) (by rfl) ?_ (by assumption) ?_
                rotate_left
                · intro w hSw; (try dsimp only at hSw); go_simp; try (with_reducible rfl)
                try simp only [Act.put, List.setIfInBounds_toArray, List.set_cons_zero, List.set_cons_succ]
                refine GoE.take (i := 4) (v := ?_) rfl (by decide) (by kernel_rfl) (by kernel_rfl) (by kernel_rfl) (by kernel_rfl) (fun _ _ _ h => h) (by rfl) ?_ (by assumption) ?_
                rotate_left
                · intro w hSw; (try dsimp only at hSw); go_simp; try (with_reducible rfl)
                try simp only [Act.put, List.setIfInBounds_toArray, List.set_cons_zero, List.set_cons_succ]
                refine GoE.take (i := 5) (v := ?_) rfl (by decide) (by kernel_rfl) (by kernel_rfl) (by kernel_rfl) (by kernel_rfl) (fun _ _ _ h => h) (by rfl) ?_ (by assumption) ?_
                rotate_left
                · intro w hSw; (try dsimp only at hSw); go_simp; try (with_reducible rfl)
                try simp only [Act.put, List.setIfInBounds_toArray, List.set_cons_zero, List.set_cons_succ]
                refine GoE.take (i := 6) (v := ?_) rfl (by decide) (by kernel_rfl) (by kernel_rfl) (by kernel_rfl) (by kernel_rfl) (fun _ _ _ h => h) (by rfl) ?_ (by assumption) ?_
                rotate_left
                · intro w hSw; (try dsimp only at hSw); go_simp; try (with_reducible rfl)
                try simp only [Act.put, List.setIfInBounds_toArray, List.set_cons_zero, List.set_cons_succ]
                refine GoE.one (i := 7) rfl (by kernel_rfl) (fun K hK => ?_)
                go_simp
                go_at_call 25
                (with_reducible refine (k1).mono ?_)
                rintro e w6 ⟨v, rfl, h6⟩
                go_wp2_with fail
                refine hK.out _ _ (fun h => absurd rfl h) ?_
                clear hK K
                try simp only [Act.put, List.setIfInBounds_toArray, List.set_cons_zero, List.set_cons_succ]
                refine GoE.done (by kernel_rfl) ?_
                clear k1 S6 H5'
                go_upto_region 28 with fail
                have H7 := sat_drew.2 h6
                have S7 := SatL.cell (H7.pull 4 : SatL _ (cl _ _ _ :: _)) (i := 1) (v := .int .i64 pl) rfl
                have k2 := s2.out _ _ H7
                refine GoE.start (fun w' => w'.cell? ⟨wr.heap.size, 1, none⟩ = some (.int .i64 (pl : Int))) 8 9 rfl (by kernel_rfl) ?_
                refine GoE.take (i := 0) (v := ?_) rfl (by decide) (by kernel_rfl) (by kernel_rfl) (by kernel_rfl) (by kernel_rfl) (fun _ _ _ h => h) (by rfl) ?_ (by assumption) ?_
                rotate_left
                · intro w hSw; (try dsimp only at hSw); go_simp; try (with_reducible rfl)
                try simp only [Act.put, List.setIfInBounds_toArray, List.set_cons_zero, List.set_cons_succ]
                refine GoE.take (i := 1) (v := ?_) rfl (by decide) (by kernel_rfl) (by kernel_rfl) (by kernel_rfl) (by kernel_rfl) (fun _ _ _ h => h) (by rfl) ?_ (by assumption) ?_
                rotate_left
                · intro w hSw; (try dsimp only at hSw); go_simp; try (with_reducible rfl)
                try simp only [Act.put, List.setIfInBounds_toArray, List.set_cons_zero, List.set_cons_succ]
                refine GoE.take (i := 2) (v := ?_) rfl (by decide) (by kernel_rfl) (by kernel_rfl) (by kernel_rfl) (by kernel_rfl) (fun _ _ _ h => h) (by rfl) ?_ (by assumption) ?_
                rotate_left
                · intro w hSw; (try dsimp only at hSw); go_simp; try (with_reducible rfl)
                try simp only [Act.put, List.setIfInBounds_toArray, List.set_cons_zero, List.set_cons_succ]
                refine GoE.take (i := 3) (v := ?_) rfl (by decide) (by kernel_rfl) (by kernel_rfl) (by kernel_rfl) (by kernel_rfl) (fun _ _ _ h => h) (by rfl) ?_ (by assumption) ?_
                rotate_left
                · intro w hSw; (try dsimp only at hSw); go_simp; try (with_reducible rfl)
                try simp only [Act.put, List.setIfInBounds_toArray, List.set_cons_zero, List.set_cons_succ]
                refine GoE.take (i := 4) (v := ?_) rfl (by decide) (by kernel_rfl) (by kernel_rfl) (by kernel_rfl) (by kernel_rfl) (fun _ _ _ h => h) (by rfl) ?_ (by assumption) ?_
                rotate_left
                · intro w hSw; (try dsimp only at hSw); go_simp; try (with_reducible rfl)
                try simp only [Act.put, List.setIfInBounds_toArray, List.set_cons_zero, List.set_cons_succ]
                refine GoE.take (i := 5) (v := ?_) rfl (by decide) (by kernel_rfl) (by kernel_rfl) (by kernel_rfl) (by kernel_rfl) (fun _ _ _ h => h) (by rfl) ?_ (by assumption) ?_
                rotate_left
                · intro w hSw; (try dsimp only at hSw); go_simp; try (with_reducible rfl)
                try simp only [Act.put, List.setIfInBounds_toArray, List.set_cons_zero, List.set_cons_succ]
                refine GoE.take (i := 6) (v := ?_) rfl (by decide) (by kernel_rfl) (by kernel_rfl) (by kernel_rfl) (by kernel_rfl) (fun _ _ _ h => h) (by rfl) ?_ (by assumption) ?_
                rotate_left
                · intro w hSw; (try dsimp only at hSw); go_simp; try (with_reducible rfl)
                try simp only [Act.put, List.setIfInBounds_toArray, List.set_cons_zero, List.set_cons_succ]
                refine GoE.take (i := 7) (v := ?_) rfl (by decide) (by kernel_rfl) (by kernel_rfl) (by kernel_rfl) (by kernel_rfl) (fun _ _ _ h => h) (by rfl) ?_ (by assumption) ?_
                rotate_left
                · intro w hSw; (try dsimp only at hSw); go_simp; try (with_reducible rfl)
                try simp only [Act.put, List.setIfInBounds_toArray, List.set_cons_zero, List.set_cons_succ]
                refine GoE.one (i := 8) rfl (by kernel_rfl) (fun K hK => ?_)
                go_simp
                go_at_call 25
                (with_reducible refine (k2).mono ?_)
                rintro e w7 ⟨v, rfl, h7⟩
                go_wp2_with fail
                refine hK.out _ _ (fun h => absurd rfl h) ?_
                clear hK K
                try simp only [Act.put, List.setIfInBounds_toArray, List.set_cons_zero, List.set_cons_succ]
                refine GoE.done (by kernel_rfl) ?_
                have k3 := s3.out _ _ h7
                clear k2 S7 H7 h6 s2
                go_wp2_with (first
                  | (go_at_call 25; (with_reducible refine k3.mono ?_); rintro e w8 ⟨v, rfl, h8⟩; have k4 := s4.out _ _ h8)
                  | (go_at_call 25; (with_reducible refine k4.mono ?_); rintro e w9 ⟨v, rfl, h9⟩))
                have h10 := SatL.tail (h9.bring [4, 0, 1, 2, 3])
                go_roundw
                case rel => exact ⟨k + 1, by omega, by go_num, by rw [← HM4.out]; exact h10⟩
                case measure => simp [intOf]; omega
              · obtain rfl : k = l.length := by omega
                have htk : ch.take l.length = ch := by rw [← Hleq.out, List.take_length]
                rw [htk] at hs
                obtain ⟨h0, hh0⟩ : ∃ h0, ch[0]? = some h0 := ⟨_, List.getElem?_eq_getElem (by rw [Hleq.out]; exact hlp)⟩
                have hg0 : ch.getD 0 0 = h0 := by rw [List.getD_eq_getElem?_getD, hh0]; rfl
                have hres := Hres2.out
                rw [hg0] at hres
                have hml : (descs d.r.base ch l m l.length).length = m.length := descs_len (n := d.r.n) (by have := Hn.out; omega) hcm.out Ok.out.rg.fit _
                have hpm : d.putM m ch l = lset (lset (descs d.r.base ch l m l.length) (d.r.base + (16 * d.r.n + 4 + 2 * (d.r.off % d.r.n))) 2 h0) (d.r.base + (16 * d.r.n + 2)) 2 ((d.r.off + 1) % 65536) := by rw [← hg0]; rfl
                have hpd : d.put ch = ⟨d.r.step, setbusy d.busy ch, upo d.ch (h0 : Int) ch⟩ := by rw [← hg0]; rfl
                obtain ⟨q, hq⟩ : ∃ q, q = d.r.off % d.r.n := ⟨_, rfl⟩
                rw [← hq] at hpm
                rw [hpm, hpd] at hres
                subst hres
                have hh0n : h0 < d.r.n := hcm.out h0 (List.mem_of_getElem? hh0)
                have hnb := Hn.out
                have hq8 : qs d.r.n = 8 + 26 * d.r.n := rfl
                have hqn : q < d.r.n := by rw [hq]; exact Nat.mod_lt _ (by omega)
                have e1 : Int.tmod (d.r.off : Int) (d.r.n : Int) = (q : Int) := by rw [Int.tmod_eq_emod_of_nonneg (by omega), hq]; rfl
                have e2 : (d.r.off : Int) % (d.r.n : Int) = (q : Int) := by rw [hq]; rfl
                have hnz : ¬ (d.r.n : Int) = 0 := by omega
                have hnz0 : ¬ d.r.n = 0 := by omega
                have l1 : (lset (descs d.r.base ch l m l.length) (d.r.base + (16 * d.r.n + 4 + 2 * q)) 2 h0).length = m.length := by rw [lset_len (by have := Ok.out.rg.fit; omega), hml]
                have hro : (d.r.off + 1) % 65536 < 65536 := Nat.mod_lt _ (by omega)
                have s1 := hid (fun (w' : World) (X : List HP) => hset.out w' X _ hml (16 * d.r.n + 4 + 2 * q) 2 h0 (.inr (.inl rfl)) (by omega) (by omega))
                have s2 : Hid (∀ (w' : World) (X : List HP), SatL w' (SlB 5 (.slice (some ⟨mb, o, none⟩) N c) (lset (descs d.r.base ch l m l.length) (d.r.base + (16 * d.r.n + 4 + 2 * q)) 2 h0) :: cl db 69 (ringV mb o d.r.step ++ [Value.slice (some ⟨bb, bo, none⟩) d.r.n bc, Value.map (some mp)]).toArray :: X) →
                    Calls Try.prog 25 #[.pointer (some ⟨db, 0, none⟩), .int .i64 (16 * d.r.n + 2 : Nat), .int .i64 (2 : Nat), .int .u64 ((d.r.off + 1) % 65536 : Nat)] w' (Ret fun u w'' => SatL w'' (SlB 5 (.slice (some ⟨mb, o, none⟩) N c) (lset (lset (descs d.r.base ch l m l.length) (d.r.base + (16 * d.r.n + 4 + 2 * q)) 2 h0) (d.r.base + (16 * d.r.n + 2)) 2 ((d.r.off + 1) % 65536)) :: cl db 69 (ringV mb o d.r.step ++ [Value.slice (some ⟨bb, bo, none⟩) d.r.n bc, Value.map (some mp)]).toArray :: X))) :=
                  hid (fun w' X h => vset_at (base := d.r.base) (n := d.r.n) Ok.out.rg.pw l1 Ok.out.rg.fit (.inr (.inl rfl)) hro (by omega) h (fun w'' h'' => SatL.cell h'' (i := 0) rfl))
                have hnx := hid (vnext_ok Ok.out.rg.ob)
                have hsetc : Hid (∀ (w' : World) (X : List HP), SatL w' (cl db 69 (ringV mb o d.r ++ [Value.slice (some ⟨bb, bo, none⟩) d.r.n bc, Value.map (some mp)]).toArray :: X) → SatL (w'.setCell ⟨db, 2, none⟩ (.int .i64 ((d.r.off + 1) % 65536 : Nat))) (cl db 69 (ringV mb o d.r.step ++ [Value.slice (some ⟨bb, bo, none⟩) d.r.n bc, Value.map (some mp)]).toArray :: X)) := hid (fun w' X h => h.set (i := 2) _)
                have hcl2 : Hid (∀ (w' : World) (X : List HP), SatL w' (cl db 69 (ringV mb o d.r.step ++ [Value.slice (some ⟨bb, bo, none⟩) d.r.n bc, Value.map (some mp)]).toArray :: X) → w'.cell? ⟨db, 1, none⟩ = some (.int .i64 d.r.n) ∧ w'.cell? ⟨db, 2, none⟩ = some (.int .i64 ((d.r.off + 1) % 65536 : Nat))) := hid (fun w' X h => ⟨h.cell (i := 1) rfl, h.cell (i := 2) rfl⟩)
                have hob := Ok.out.rg.ob
                have hav := hid (fun (w' : World) (h : w'.cell? ⟨db, 1, none⟩ = some (.int .i64 d.r.n)) => vavail_ok (w := w') (rb := db) (n := d.r.n) hnb.2 h)
                simp only [show ((16 * d.r.n + 4 + 2 * q : Nat) : Int) = ((16 * d.r.n : Nat) : Int) + 4 + 2 * (q : Int) by omega, show ((2 : Nat) : Int) = 2 from rfl] at s1
                simp only [show ((16 * d.r.n + 2 : Nat) : Int) = ((16 * d.r.n : Nat) : Int) + 2 by omega, show ((2 : Nat) : Int) = 2 from rfl] at s2
                have hAb : 16 * d.r.n ≤ 4096 := by omega
                clear l1 hml hpm hpd hg0 htk Hres2 hq
                obtain ⟨M2, hM2⟩ : ∃ M2, M2 = lset (lset (descs d.r.base ch l m l.length) (d.r.base + (16 * d.r.n + 4 + 2 * q)) 2 h0) (d.r.base + (16 * d.r.n + 2)) 2 ((d.r.off + 1) % 65536) := ⟨_, rfl⟩
                rw [← hM2] at s2
                have HM2 := hid hM2
                clear hM2
                generalize lset (descs d.r.base ch l m l.length) (d.r.base + (16 * d.r.n + 4 + 2 * q)) 2 h0 = M1 at s1 s2
                generalize descs d.r.base ch l m l.length = M0 at s1 hs
                generalize 16 * d.r.n = A at s1 s2 hav hAb
                generalize (d.r.off + 1) % 65536 = ro at s2 hnx hsetc hcl2 hro
                have w1 : IntKind.i64.wrap ((A : Int) + 2) = (A : Int) + 2 := IntWalk.i64_in _ (by omega)
                have w2 : IntKind.i64.wrap ((A : Int) + 4) = (A : Int) + 4 := IntWalk.i64_in _ (by omega)
                have w3 : IntKind.i64.wrap (2 * (q : Int)) = 2 * (q : Int) := IntWalk.i64_in _ (by omega)
                have w4 : IntKind.i64.wrap ((A : Int) + 4 + 2 * (q : Int)) = (A : Int) + 4 + 2 * (q : Int) := IntWalk.i64_in _ (by omega)
                have w7 : IntKind.i64.wrap (q : Int) = (q : Int) := IntWalk.i64_in _ (by omega)
                have w5 : IntKind.u64.wrap (h0 : Int) = (h0 : Int) := u64_in _ (by omega)
                have w6 : IntKind.u64.wrap (ro : Int) = (ro : Int) := u64_in _ (by omega)
                have hoz : (d.r.off : Int) < 65536 := by omega
                have hroz : (ro : Int) < 65536 := by omega
                have hn3 := (hs.pull 3 : SatL wr (Sl _ _ _ :: _))
                obtain ⟨cb, co, rfl⟩ := Sl.addr hn3 hlp
                have hcell := hid (fun (w' : World) (X : List HP) (h : SatL w' (NatsL (.slice (some ⟨cb, co, none⟩) l.length cap) ch :: X)) => (by have := Sl.cell h (i := 0) (x := .int .i64 (h0 : Nat)) (by unfold natV; rw [List.getElem?_map, hh0]; rfl); rwa [Nat.add_zero] at this : w'.cell? ⟨cb, co, none⟩ = some (.int .i64 (h0 : Int))))
                have hd := sat_drew.2 hs
                have S3 : wr.drew.cell? ⟨db, 5, none⟩ = some (.map (some mp)) ∧ wr.drew.cell? ⟨cb, co, none⟩ = some (.int .i64 (h0 : Int)) := ⟨(hcl.out _ _ (hd.pull 1 : SatL _ (cl _ _ _ :: _))).2.2.2.2.2, hcell.out _ _ (hd.pull 3 : SatL _ (Sl _ _ _ :: _))⟩
                obtain ⟨es, Rr, L0, h5, _, _, hback⟩ := mapf_open (hd.pull 4 : SatL wr.drew (MapF _ _ _ :: _)) (h0 : Int)
                have Hback := hid hback
                have hMap := (SatL.tail h5).bring [0, 5, 1, 2, 3, 4]
                clear hback hn3 hd hs h5 hk hlt
                go_upto_region 32 with fail
                refine GoE.start (fun w' => w'.cell? ⟨db, 5, none⟩ = some (.map (some mp)) ∧ w'.cell? ⟨cb, co, none⟩ = some (.int .i64 (h0 : Int))) 8 9 rfl (by kernel_rfl) ?_
                refine GoE.take (i := 0) (v := ?_) rfl (by decide) (by kernel_rfl) (by kernel_rfl) (by kernel_rfl) (by kernel_rfl) (fun _ _ _ h => h) (by rfl) ?_ (by assumption) ?_
                rotate_left
                · intro w hSw; (try dsimp only at hSw); go_simp; try (with_reducible rfl)
                try simp only [Act.put, List.setIfInBounds_toArray, List.set_cons_zero, List.set_cons_succ]
                refine GoE.take (i := 1) (v := ?_) rfl (by decide) (by kernel_rfl) (by kernel_rfl) (by kernel_rfl) (by kernel_rfl) (fun _ _ _ h => h) (by rfl) ?_ (by assumption) ?_
                rotate_left
                · intro w hSw; (try dsimp only at hSw); go_simp; try (with_reducible rfl)
                try simp only [Act.put, List.setIfInBounds_toArray, List.set_cons_zero, List.set_cons_succ]
                refine GoE.take (i := 2) (v := ?_) rfl (by decide) (by kernel_rfl) (by kernel_rfl) (by kernel_rfl) (by kernel_rfl) (fun _ _ _ h => h) (by rfl) ?_ (by assumption) ?_
                rotate_left
                · intro w hSw; (try dsimp only at hSw); go_simp; try (with_reducible rfl)
                try simp only [Act.put, List.setIfInBounds_toArray, List.set_cons_zero, List.set_cons_succ]
                refine GoE.take (i := 3) (v := ?_) rfl (by decide) (by kernel_rfl) (by kernel_rfl) (by kernel_rfl) (by kernel_rfl) (fun _ _ _ h => h) (by rfl) ?_ (by assumption) ?_
                rotate_left
                · intro w hSw; (try dsimp only at hSw); go_simp; try (with_reducible rfl)
                try simp only [Act.put, List.setIfInBounds_toArray, List.set_cons_zero, List.set_cons_succ]
                refine GoE.take (i := 4) (v := ?_) rfl (by decide) (by kernel_rfl) (by kernel_rfl) (by kernel_rfl) (by kernel_rfl) (fun _ _ _ h => h) (by rfl) ?_ (by assumption) ?_
                rotate_left
                · intro w hSw; (try dsimp only at hSw); go_simp; try (with_reducible rfl)
                try simp only [Act.put, List.setIfInBounds_toArray, List.set_cons_zero, List.set_cons_succ]
                refine GoE.take (i := 5) (v := ?_) rfl (by decide) (by kernel_rfl) (by kernel_rfl) (by kernel_rfl) (by kernel_rfl) (fun _ _ _ h => h) (by rfl) ?_ (by assumption) ?_
                rotate_left
                · intro w hSw; (try dsimp only at hSw); go_simp; try (with_reducible rfl)
                try simp only [Act.put, List.setIfInBounds_toArray, List.set_cons_zero, List.set_cons_succ]
                refine GoE.take (i := 6) (v := ?_) rfl (by decide) (by kernel_rfl) (by kernel_rfl) (by kernel_rfl) (by kernel_rfl) (fun _ _ _ h => h) (by rfl) ?_ (by assumption) ?_
                rotate_left
                · intro w hSw; (try dsimp only at hSw); go_simp; try (with_reducible rfl)
                try simp only [Act.put, List.setIfInBounds_toArray, List.set_cons_zero, List.set_cons_succ]
                refine GoE.take (i := 7) (v := ?_) rfl (by decide) (by kernel_rfl) (by kernel_rfl) (by kernel_rfl) (by kernel_rfl) (fun _ _ _ h => h) (by rfl) ?_ (by assumption) ?_
                rotate_left
                · intro w hSw; (try dsimp only at hSw); go_simp; try (with_reducible rfl)
                try simp only [Act.put, List.setIfInBounds_toArray, List.set_cons_zero, List.set_cons_succ]
                refine GoE.one (i := 8) rfl (by kernel_rfl) (fun K hK => ?_)
                refine step_mapUpdate_sl rfl (.tmp 134) (.tmp 137) (.tmp 138) rfl key_ch rfl hMap rfl rfl ?_
                intro wF h6
                refine hK.out _ _ (fun h => absurd rfl h) ?_
                clear hK K
                try simp only [Act.put, List.setIfInBounds_toArray, List.set_cons_zero, List.set_cons_succ]
                refine GoE.done (by kernel_rfl) ?_
                have h8 := sat_drew.2 (h6.bring [3, 4, 1, 0, 2, 5])
                clear hMap S3 h6
                obtain ⟨_, c1, c2, _⟩ := hcl.out _ _ (h8.pull 1 : SatL _ (cl _ _ _ :: _))
                have S8 : wF.drew.cell? ⟨db, 1, none⟩ = some (.int .i64 d.r.n) ∧ wF.drew.cell? ⟨db, 2, none⟩ = some (.int .i64 d.r.off) ∧ wF.drew.cell? ⟨cb, co, none⟩ = some (.int .i64 (h0 : Int)) := ⟨c1, c2, hcell.out _ _ (h8.pull 2 : SatL _ (Sl _ _ _ :: _))⟩
                have k1 := s1.out _ _ h8
                have kav := hav.out _ c1
                clear c1 c2 s1 h8
                go_upto_region 33 with fail
                refine GoE.start (fun w' => w'.cell? ⟨db, 1, none⟩ = some (.int .i64 d.r.n) ∧ w'.cell? ⟨db, 2, none⟩ = some (.int .i64 d.r.off) ∧ w'.cell? ⟨cb, co, none⟩ = some (.int .i64 (h0 : Int))) 25 26 rfl (by kernel_rfl) ?_
                refine GoE.take (i := 0) (v := ?_) rfl (by decide) (by kernel_rfl) (by kernel_rfl) (by kernel_rfl) (by kernel_rfl) (fun _ _ _ h => h) (by rfl) ?_ (by assumption) ?_
                rotate_left
                · intro w hSw; (try dsimp only at hSw); go_simp; try (with_reducible rfl)
                try simp only [Act.put, List.setIfInBounds_toArray, List.set_cons_zero, List.set_cons_succ]
                refine GoE.take (i := 1) (v := ?_) rfl (by decide) (by kernel_rfl) (by kernel_rfl) (by kernel_rfl) (by kernel_rfl) (fun _ _ _ h => h) (by rfl) ?_ (by assumption) ?_
                rotate_left
                · intro w hSw; (try dsimp only at hSw); go_simp; try (with_reducible rfl)
                try simp only [Act.put, List.setIfInBounds_toArray, List.set_cons_zero, List.set_cons_succ]
                refine GoE.take (i := 2) (v := ?_) rfl (by decide) (by kernel_rfl) (by kernel_rfl) (by kernel_rfl) (by kernel_rfl) (fun _ _ _ h => h) (by rfl) ?_ (by assumption) ?_
                rotate_left
                · intro w hSw; (try dsimp only at hSw); go_simp; try (with_reducible rfl)
                try simp only [Act.put, List.setIfInBounds_toArray, List.set_cons_zero, List.set_cons_succ]
                refine GoE.take (i := 3) (v := ?_) rfl (by decide) (by kernel_rfl) (by kernel_rfl) (by kernel_rfl) (by kernel_rfl) (fun _ _ _ h => h) (by rfl) ?_ (by assumption) ?_
                rotate_left
                · intro w hSw; (try dsimp only at hSw); go_simp; try (with_reducible rfl)
                try simp only [Act.put, List.setIfInBounds_toArray, List.set_cons_zero, List.set_cons_succ]
                refine GoE.take (i := 4) (v := ?_) rfl (by decide) (by kernel_rfl) (by kernel_rfl) (by kernel_rfl) (by kernel_rfl) (fun _ _ _ h => h) (by rfl) ?_ (by assumption) ?_
                rotate_left
                · intro w hSw; (try dsimp only at hSw); go_simp; try (with_reducible rfl)
                try simp only [Act.put, List.setIfInBounds_toArray, List.set_cons_zero, List.set_cons_succ]
                refine GoE.take (i := 5) (v := ?_) rfl (by decide) (by kernel_rfl) (by kernel_rfl) (by kernel_rfl) (by kernel_rfl) (fun _ _ _ h => h) (by rfl) ?_ (by assumption) ?_
                rotate_left
                · intro w hSw; (try dsimp only at hSw); go_simp; try (with_reducible rfl)
                try simp only [Act.put, List.setIfInBounds_toArray, List.set_cons_zero, List.set_cons_succ]
                refine GoE.take (i := 8) (v := ?_) rfl (by decide) (by kernel_rfl) (by kernel_rfl) (by kernel_rfl) (by kernel_rfl) (fun _ _ _ h => h) (by rfl) ?_ (by assumption) ?_
                rotate_left
                · intro w hSw; (try dsimp only at hSw); go_simp; try (with_reducible rfl)
                try simp only [Act.put, List.setIfInBounds_toArray, List.set_cons_zero, List.set_cons_succ]
                refine GoE.take (i := 9) (v := ?_) rfl (by decide) (by kernel_rfl) (by kernel_rfl) (by kernel_rfl) (by kernel_rfl) (fun _ _ _ h => h) (by rfl) ?_ (by assumption) ?_
                rotate_left
                · intro w hSw; (try dsimp only at hSw); go_simp; try (with_reducible rfl)
                try simp only [Act.put, List.setIfInBounds_toArray, List.set_cons_zero, List.set_cons_succ]
                refine GoE.take (i := 10) (v := ?_) rfl (by decide) (by kernel_rfl) (by kernel_rfl) (by kernel_rfl) (by kernel_rfl) (fun _ _ _ h => h) (by rfl) ?_ (by assumption) ?_
                rotate_left
                · intro w hSw; (try dsimp only at hSw); go_simp; try (with_reducible rfl)
                try simp only [Act.put, List.setIfInBounds_toArray, List.set_cons_zero, List.set_cons_succ]
                refine GoE.take (i := 11) (v := ?_) rfl (by decide) (by kernel_rfl) (by kernel_rfl) (by kernel_rfl) (by kernel_rfl) (fun _ _ _ h => h) (by rfl) ?_ (by assumption) ?_
                rotate_left
                · intro w hSw; (try dsimp only at hSw); go_simp; try (with_reducible rfl)
                try simp only [Act.put, List.setIfInBounds_toArray, List.set_cons_zero, List.set_cons_succ]
                refine GoE.take (i := 12) (v := ?_) rfl (by decide) (by kernel_rfl) (by kernel_rfl) (by kernel_rfl) (by kernel_rfl) (fun _ _ _ h => h) (by rfl) ?_ (by assumption) ?_
                rotate_left
                · intro w hSw; (try dsimp only at hSw); go_simp; try (with_reducible rfl)
                try simp only [Act.put, List.setIfInBounds_toArray, List.set_cons_zero, List.set_cons_succ]
                refine GoE.take (i := 13) (v := ?_) rfl (by decide) (by kernel_rfl) (by kernel_rfl) (by kernel_rfl) (by kernel_rfl) (fun _ _ _ h => h) (by rfl) ?_ (by assumption) ?_
                rotate_left
                · intro w hSw; (try dsimp only at hSw); go_simp; try (with_reducible rfl)
                try simp only [Act.put, List.setIfInBounds_toArray, List.set_cons_zero, List.set_cons_succ]
                refine GoE.take (i := 14) (v := ?_) rfl (by decide) (by kernel_rfl) (by kernel_rfl) (by kernel_rfl) (by kernel_rfl) (fun _ _ _ h => h) (by rfl) ?_ (by assumption) ?_
                rotate_left
                · intro w hSw; (try dsimp only at hSw); go_simp; try (with_reducible rfl)
                try simp only [Act.put, List.setIfInBounds_toArray, List.set_cons_zero, List.set_cons_succ]
                refine GoE.take (i := 15) (v := ?_) rfl (by decide) (by kernel_rfl) (by kernel_rfl) (by kernel_rfl) (by kernel_rfl) (fun _ _ _ h => h) (by rfl) ?_ (by assumption) ?_
                rotate_left
                · intro w hSw; (try dsimp only at hSw); go_simp; try (with_reducible rfl)
                try simp only [Act.put, List.setIfInBounds_toArray, List.set_cons_zero, List.set_cons_succ]
                refine GoE.take (i := 16) (v := ?_) rfl (by decide) (by kernel_rfl) (by kernel_rfl) (by kernel_rfl) (by kernel_rfl) (fun _ _ _ h => h) (by rfl) ?_ (by assumption) ?_
                rotate_left
                · intro w hSw; (try dsimp only at hSw); go_simp; try (with_reducible rfl)
                try simp only [Act.put, List.setIfInBounds_toArray, List.set_cons_zero, List.set_cons_succ]
                refine GoE.take (i := 17) (v := ?_) rfl (by decide) (by kernel_rfl) (by kernel_rfl) (by kernel_rfl) (by kernel_rfl) (fun _ _ _ h => h) (by rfl) ?_ (by assumption) ?_
                rotate_left
                · intro w hSw; (try dsimp only at hSw); go_simp; try (with_reducible rfl)
                try simp only [Act.put, List.setIfInBounds_toArray, List.set_cons_zero, List.set_cons_succ]
                refine GoE.take (i := 18) (v := ?_) rfl (by decide) (by kernel_rfl) (by kernel_rfl) (by kernel_rfl) (by kernel_rfl) (fun _ _ _ h => h) (by rfl) ?_ (by assumption) ?_
                rotate_left
                · intro w hSw; (try dsimp only at hSw); go_simp; try (with_reducible rfl)
                try simp only [Act.put, List.setIfInBounds_toArray, List.set_cons_zero, List.set_cons_succ]
                refine GoE.take (i := 19) (v := ?_) rfl (by decide) (by kernel_rfl) (by kernel_rfl) (by kernel_rfl) (by kernel_rfl) (fun _ _ _ h => h) (by rfl) ?_ (by assumption) ?_
                rotate_left
                · intro w hSw; (try dsimp only at hSw); go_simp; try (with_reducible rfl)
                try simp only [Act.put, List.setIfInBounds_toArray, List.set_cons_zero, List.set_cons_succ]
                refine GoE.take (i := 21) (v := ?_) rfl (by decide) (by kernel_rfl) (by kernel_rfl) (by kernel_rfl) (by kernel_rfl) (fun _ _ _ h => h) (by rfl) ?_ (by assumption) ?_
                rotate_left
                · intro w hSw; (try dsimp only at hSw); go_simp; try (with_reducible rfl)
                try simp only [Act.put, List.setIfInBounds_toArray, List.set_cons_zero, List.set_cons_succ]
                refine GoE.take (i := 22) (v := ?_) rfl (by decide) (by kernel_rfl) (by kernel_rfl) (by kernel_rfl) (by kernel_rfl) (fun _ _ _ h => h) (by rfl) ?_ (by assumption) ?_
                rotate_left
                · intro w hSw; (try dsimp only at hSw); go_simp; try (with_reducible rfl)
                try simp only [Act.put, List.setIfInBounds_toArray, List.set_cons_zero, List.set_cons_succ]
                refine GoE.take (i := 23) (v := ?_) rfl (by decide) (by kernel_rfl) (by kernel_rfl) (by kernel_rfl) (by kernel_rfl) (fun _ _ _ h => h) (by rfl) ?_ (by assumption) ?_
                rotate_left
                · intro w hSw; (try dsimp only at hSw); go_simp; try (with_reducible rfl)
                try simp only [Act.put, List.setIfInBounds_toArray, List.set_cons_zero, List.set_cons_succ]
                refine GoE.take (i := 24) (v := ?_) rfl (by decide) (by kernel_rfl) (by kernel_rfl) (by kernel_rfl) (by kernel_rfl) (fun _ _ _ h => h) (by rfl) ?_ (by assumption) ?_
                rotate_left
                · intro w hSw; (try dsimp only at hSw); go_simp; try (with_reducible rfl)
                try simp only [Act.put, List.setIfInBounds_toArray, List.set_cons_zero, List.set_cons_succ]
                refine GoE.one (i := 6) rfl (by kernel_rfl) (fun K hK => ?_)
                go_simp
                go_at_call 26
                (with_reducible refine (kav).mono ?_)
                rintro e w5 ⟨v, rfl, rfl, rfl⟩
                go_wp2_with fail
                refine hK.out _ _ (fun _ => S8) ?_
                clear hK K
                try simp only [Act.put, List.setIfInBounds_toArray, List.set_cons_zero, List.set_cons_succ]
                refine GoE.take (i := 7) (v := ?_) rfl (by decide) (by kernel_rfl) (by kernel_rfl) (by kernel_rfl) (by kernel_rfl) (fun _ _ _ h => h) (by rfl) ?_ (by assumption) ?_
                rotate_left
                · intro w hSw; (try dsimp only at hSw); go_simp; try (with_reducible rfl)
                try simp only [Act.put, List.setIfInBounds_toArray, List.set_cons_zero, List.set_cons_succ]
                refine GoE.take (i := 20) (v := ?_) rfl (by decide) (by kernel_rfl) (by kernel_rfl) (by kernel_rfl) (by kernel_rfl) (fun _ _ _ h => h) (by rfl) ?_ (by assumption) ?_
                rotate_left
                · intro w hSw; (try dsimp only at hSw); go_simp; try (with_reducible rfl)
                try simp only [Act.put, List.setIfInBounds_toArray, List.set_cons_zero, List.set_cons_succ]
                refine GoE.one (i := 25) rfl (by kernel_rfl) (fun K hK => ?_)
                go_simp
                go_at_call 25
                (with_reducible refine (k1).mono ?_)
                rintro e wG ⟨v, rfl, h9⟩
                go_wp2_with fail
                refine hK.out _ _ (fun h => absurd rfl h) ?_
                clear hK K
                try simp only [Act.put, List.setIfInBounds_toArray, List.set_cons_zero, List.set_cons_succ]
                refine GoE.done (by kernel_rfl) ?_
                clear k1 kav S8 w2 w3 w4 w7 w5 e1 e2 hqn
                obtain ⟨_, c1, c2, _⟩ := hcl.out _ _ (h9.pull 1 : SatL _ (cl _ _ _ :: _))
                have f2 := SatL.free (h9.pull 1 : SatL _ (cl _ _ _ :: _)) 2
                have kn := hnx.out wG
                go_upto_region 35 with (first
                  | (go_at_call 27; (with_reducible refine kn.mono ?_); rintro e w5 ⟨v, rfl, rfl, rfl⟩))
                have h10 := sat_drew.2 (hsetc.out _ _ (h9.pull 1 : SatL _ (cl _ _ _ :: _)))
                have S10 := hcl2.out _ _ h10
                have k2 := s2.out _ _ h10.swap
                have kav := hav.out _ S10.1
                clear kn c1 c2 f2 h9 h10 s2 hsetc
                refine GoE.start (fun w' => w'.cell? ⟨db, 1, none⟩ = some (.int .i64 d.r.n) ∧ w'.cell? ⟨db, 2, none⟩ = some (.int .i64 ro)) 14 15 rfl (by kernel_rfl) ?_
                refine GoE.take (i := 0) (v := ?_) rfl (by decide) (by kernel_rfl) (by kernel_rfl) (by kernel_rfl) (by kernel_rfl) (fun _ _ _ h => h) (by rfl) ?_ (by assumption) ?_
                rotate_left
                · intro w hSw; (try dsimp only at hSw); go_simp; try (with_reducible rfl)
                try simp only [Act.put, List.setIfInBounds_toArray, List.set_cons_zero, List.set_cons_succ]
                refine GoE.take (i := 1) (v := ?_) rfl (by decide) (by kernel_rfl) (by kernel_rfl) (by kernel_rfl) (by kernel_rfl) (fun _ _ _ h => h) (by rfl) ?_ (by assumption) ?_
                rotate_left
                · intro w hSw; (try dsimp only at hSw); go_simp; try (with_reducible rfl)
                try simp only [Act.put, List.setIfInBounds_toArray, List.set_cons_zero, List.set_cons_succ]
                refine GoE.take (i := 2) (v := ?_) rfl (by decide) (by kernel_rfl) (by kernel_rfl) (by kernel_rfl) (by kernel_rfl) (fun _ _ _ h => h) (by rfl) ?_ (by assumption) ?_
                rotate_left
                · intro w hSw; (try dsimp only at hSw); go_simp; try (with_reducible rfl)
                try simp only [Act.put, List.setIfInBounds_toArray, List.set_cons_zero, List.set_cons_succ]
                refine GoE.take (i := 3) (v := ?_) rfl (by decide) (by kernel_rfl) (by kernel_rfl) (by kernel_rfl) (by kernel_rfl) (fun _ _ _ h => h) (by rfl) ?_ (by assumption) ?_
                rotate_left
                · intro w hSw; (try dsimp only at hSw); go_simp; try (with_reducible rfl)
                try simp only [Act.put, List.setIfInBounds_toArray, List.set_cons_zero, List.set_cons_succ]
                refine GoE.take (i := 4) (v := ?_) rfl (by decide) (by kernel_rfl) (by kernel_rfl) (by kernel_rfl) (by kernel_rfl) (fun _ _ _ h => h) (by rfl) ?_ (by assumption) ?_
                rotate_left
                · intro w hSw; (try dsimp only at hSw); go_simp; try (with_reducible rfl)
                try simp only [Act.put, List.setIfInBounds_toArray, List.set_cons_zero, List.set_cons_succ]
                refine GoE.take (i := 5) (v := ?_) rfl (by decide) (by kernel_rfl) (by kernel_rfl) (by kernel_rfl) (by kernel_rfl) (fun _ _ _ h => h) (by rfl) ?_ (by assumption) ?_
                rotate_left
                · intro w hSw; (try dsimp only at hSw); go_simp; try (with_reducible rfl)
                try simp only [Act.put, List.setIfInBounds_toArray, List.set_cons_zero, List.set_cons_succ]
                refine GoE.take (i := 8) (v := ?_) rfl (by decide) (by kernel_rfl) (by kernel_rfl) (by kernel_rfl) (by kernel_rfl) (fun _ _ _ h => h) (by rfl) ?_ (by assumption) ?_
                rotate_left
                · intro w hSw; (try dsimp only at hSw); go_simp; try (with_reducible rfl)
                try simp only [Act.put, List.setIfInBounds_toArray, List.set_cons_zero, List.set_cons_succ]
                refine GoE.take (i := 9) (v := ?_) rfl (by decide) (by kernel_rfl) (by kernel_rfl) (by kernel_rfl) (by kernel_rfl) (fun _ _ _ h => h) (by rfl) ?_ (by assumption) ?_
                rotate_left
                · intro w hSw; (try dsimp only at hSw); go_simp; try (with_reducible rfl)
                try simp only [Act.put, List.setIfInBounds_toArray, List.set_cons_zero, List.set_cons_succ]
                refine GoE.take (i := 10) (v := ?_) rfl (by decide) (by kernel_rfl) (by kernel_rfl) (by kernel_rfl) (by kernel_rfl) (fun _ _ _ h => h) (by rfl) ?_ (by assumption) ?_
                rotate_left
                · intro w hSw; (try dsimp only at hSw); go_simp; try (with_reducible rfl)
                try simp only [Act.put, List.setIfInBounds_toArray, List.set_cons_zero, List.set_cons_succ]
                refine GoE.take (i := 11) (v := ?_) rfl (by decide) (by kernel_rfl) (by kernel_rfl) (by kernel_rfl) (by kernel_rfl) (fun _ _ _ h => h) (by rfl) ?_ (by assumption) ?_
                rotate_left
                · intro w hSw; (try dsimp only at hSw); go_simp; try (with_reducible rfl)
                try simp only [Act.put, List.setIfInBounds_toArray, List.set_cons_zero, List.set_cons_succ]
                refine GoE.take (i := 12) (v := ?_) rfl (by decide) (by kernel_rfl) (by kernel_rfl) (by kernel_rfl) (by kernel_rfl) (fun _ _ _ h => h) (by rfl) ?_ (by assumption) ?_
                rotate_left
                · intro w hSw; (try dsimp only at hSw); go_simp; try (with_reducible rfl)
                try simp only [Act.put, List.setIfInBounds_toArray, List.set_cons_zero, List.set_cons_succ]
                refine GoE.take (i := 13) (v := ?_) rfl (by decide) (by kernel_rfl) (by kernel_rfl) (by kernel_rfl) (by kernel_rfl) (fun _ _ _ h => h) (by rfl) ?_ (by assumption) ?_
                rotate_left
                · intro w hSw; (try dsimp only at hSw); go_simp; try (with_reducible rfl)
                try simp only [Act.put, List.setIfInBounds_toArray, List.set_cons_zero, List.set_cons_succ]
                refine GoE.one (i := 6) rfl (by kernel_rfl) (fun K hK => ?_)
                go_simp
                go_at_call 26
                (with_reducible refine (kav).mono ?_)
                rintro e w5 ⟨v, rfl, rfl, rfl⟩
                go_wp2_with fail
                refine hK.out _ _ (fun _ => S10) ?_
                clear hK K
                try simp only [Act.put, List.setIfInBounds_toArray, List.set_cons_zero, List.set_cons_succ]
                refine GoE.take (i := 7) (v := ?_) rfl (by decide) (by kernel_rfl) (by kernel_rfl) (by kernel_rfl) (by kernel_rfl) (fun _ _ _ h => h) (by rfl) ?_ (by assumption) ?_
                rotate_left
                · intro w hSw; (try dsimp only at hSw); go_simp; try (with_reducible rfl)
                try simp only [Act.put, List.setIfInBounds_toArray, List.set_cons_zero, List.set_cons_succ]
                refine GoE.one (i := 14) rfl (by kernel_rfl) (fun K hK => ?_)
                go_simp
                go_at_call 25
                (with_reducible refine (k2).mono ?_)
                rintro e wH ⟨v, rfl, h11⟩
                go_wp2_with fail
                refine hK.out _ _ (fun h => absurd rfl h) ?_
                clear hK K
                try simp only [Act.put, List.setIfInBounds_toArray, List.set_cons_zero, List.set_cons_succ]
                refine GoE.done (by kernel_rfl) ?_
                have ce := hcell.out _ _ (h11.pull 2 : SatL _ (Sl _ _ _ :: _))
                clear k2 kav S10
                have hfin := Hback.out wH _ _ _ (h11.bring [2, 3, 4, 0, 1, 5])
                have hfin2 : SatL wH (DrvR db mb o ⟨d.r.step, setbusy d.busy ch, upo d.ch (h0 : Int) ch⟩ :: SlB 5 (.slice (some ⟨mb, o, none⟩) N c) M2 :: L) := sat_DrvR.2 ⟨_, _, hfin.bring [2, 3, 0, 1]⟩
                clear h11 hfin
                go_wp2
                go_ret2
                rw [HM2.out] at hfin2
                exact Ret.mk ⟨rfl, hfin2⟩
end
end Go.Proofs.Ytnniipeoahpkcaa
