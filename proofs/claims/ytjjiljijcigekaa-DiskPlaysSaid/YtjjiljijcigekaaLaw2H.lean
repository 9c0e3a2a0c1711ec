/- alike of chapter 2's statements: it tells that both disks stand alike. No condition beside the sizes that it names. -/
import Derived.Test.YtjjiljijcigekaaLaw2G
namespace Go.Proofs.Ytjjiljijcigekaa
set_option linter.unusedVariables false
set_option linter.unusedSimpArgs false
open Go.RowKit
def Dsk.plx (s : Dsk) (z : Int) : List UInt8 × Int := if 0 ≤ z ∧ z < s.n then (s.P z.toNat, 0) else ([], 1)
def Dsk.vex (s : Dsk) (z : Int) : Nat × Int := if 0 ≤ z ∧ z < s.n then ((s.V z.toNat).length, 0) else (0, 1)
section
variable {w : World} {L : List HP} {db xb : Nat} {s : Dsk}
theorem platterx_ok {z : Int} (hr : I64 z) (h : SatL w (DskR db s :: L)) :
    Calls Try.prog 34 #[.pointer (some ⟨db, 0, none⟩), .int .i64 z] w (Ret fun r w' => ∃ v, r = .tuple #[v, .int .i64 (s.plx z).2] ∧ SatL w' (SlB 5 v (s.plx z).1 :: DskR db s :: L)) := by
  unfold Dsk.plx
  split
  · rename_i h1
    obtain ⟨q, rfl⟩ := Int.eq_ofNat_of_zero_le h1.1
    exact platter_ok (by omega) h
  · rename_i h1
    refine (platter_no hr (by omega) h).mono ?_
    rintro e w' ⟨v, rfl, rfl, rfl⟩
    exact Ret.mk ⟨_, rfl, Sl_nil h⟩
theorem refplatterx_ok {z : Int} (hr : I64 z) (h : SatL w (RDsk xb s :: L)) :
    Calls Try.prog 35 #[.pointer (some ⟨xb, 0, none⟩), .int .i64 z] w (Ret fun r w' => ∃ v, r = .tuple #[v, .int .i64 (s.plx z).2] ∧ SatL w' (SlB 5 v (s.plx z).1 :: RDsk xb s :: L)) := by
  unfold Dsk.plx
  split
  · rename_i h1
    obtain ⟨q, rfl⟩ := Int.eq_ofNat_of_zero_le h1.1
    exact refplatter_ok (by omega) h
  · rename_i h1
    refine (refplatter_no hr (by omega) h).mono ?_
    rintro e w' ⟨v, rfl, rfl, rfl⟩
    exact Ret.mk ⟨_, rfl, Sl_nil h⟩
theorem versionsx_ok {z : Int} (hr : I64 z) (hV : ∀ i, (s.V i).length ≤ 100000) (h : SatL w (DskR db s :: L)) :
    Calls Try.prog 18 #[.pointer (some ⟨db, 0, none⟩), .int .i64 z] w (Ret fun r w' => r = .tuple #[.int .i64 (s.vex z).1, .int .i64 (s.vex z).2] ∧ w = w') := by
  unfold Dsk.vex
  split
  · rename_i h1
    obtain ⟨q, rfl⟩ := Int.eq_ofNat_of_zero_le h1.1
    exact versions_ok (by omega) (Nat.le_trans (hV _) (by omega)) h
  · rename_i h1
    exact versions_no hr (by omega) h
set_option maxRecDepth 100000 in
theorem atx_ok {z : Int} (h : SatL w (RDsk xb s :: L)) :
    Calls Try.prog 36 #[.pointer (some ⟨xb, 0, none⟩), .int .i64 z] w (Ret fun r w' => w = w' ∧ ((r = .pointer none ∧ (s.vex z).1 = 0) ∨ ∃ p a c, r = .pointer (some ⟨p, 0, none⟩) ∧ w'.cell? ⟨p, 2, none⟩ = some (.slice a (s.vex z).1 c))) := by
  obtain ⟨lv, bs, ok, h⟩ := sat_RDsk.1 h
  have hl := ok.few
  have hl2 := ok.bd
  obtain ⟨a, c, rfl, q1, q2⟩ := Sl.valn (SatL.pull h 1 : SatL w (Sl _ _ _ :: _)) (m := bs.length) (by rw [List.length_map])
  have c1 := SatL.cell h (i := 1) (v := .slice a bs.length c) rfl
  have Ok := hid ok
  have hlb : bs.length ≤ 65536 := by omega
  clear ok hl hl2
  go_enter Try.func36, Try.ntmps36
  go_wp2
  go_loopw [5] (fun v wr => ∃ j : Nat, j ≤ bs.length ∧ v = .int .i64 j ∧ (∀ q b, q < j → bs[q]? = some b → ¬ (b.k : Int) = z) ∧ w = wr) (fun v _ => bs.length - (intOf v).toNat)
  case atStart => exact ⟨0, by omega, rfl, fun q b hq => by omega, rfl⟩
  case round =>
    obtain ⟨j, hj, rfl, hno, rfl⟩ := hrel
    have Hno := hid hno
    clear hno
    by_cases hlt : j < bs.length
    · obtain ⟨x, hx⟩ : ∃ x, bs[j]? = some x := ⟨_, List.getElem?_eq_getElem hlt⟩
      obtain ⟨b, o, rfl⟩ := Sl.addr (SatL.pull h 1 : SatL w (Sl _ _ _ :: _)) (by omega)
      have cj := Sl.cell (SatL.pull h 1 : SatL w (Sl _ _ _ :: _)) (i := j) (x := .pointer (some ⟨x.p, 0, none⟩)) (by rw [List.getElem?_map, hx]; rfl)
      have ck := (bk_cells (List.mem_of_getElem? hx) (SatL.pull h 2 : SatL w (big _ _ :: _))).1
      have hjz : (j : Int) < (bs.length : Int) := by omega
      have Hx := hid hx
      have Hh := hid h
      clear hx h
      by_cases hk : (x.k : Int) = z
      · have Hk := hid hk
        go_wp2
        go_ret
        refine Ret.mk ⟨rfl, .inr ?_⟩
        have hm := List.mem_of_getElem? Hx.out
        have hkn := Ok.out.key x hm
        obtain ⟨_, va, vc, hv, v1, v2, _⟩ := bk_rd hm (SatL.pull Hh.out 2 : SatL w (big _ _ :: _))
        have c2 := (bk_cells hm (SatL.pull Hh.out 2 : SatL w (big _ _ :: _))).2.2
        rw [hv] at c2
        have e : (s.vex z).1 = (s.V x.k).length := by unfold Dsk.vex; rw [← Hk.out, if_pos (by omega)]; rfl
        rw [e]
        exact ⟨x.p, va, vc, rfl, c2⟩
      · have hn2 := hid (show ∀ q b, q < j + 1 → bs[q]? = some b → ¬ (b.k : Int) = z from fun q b' hq hb => by
          rcases Nat.lt_or_ge q j with h1 | h1
          · exact Hno.out q b' h1 hb
          · obtain rfl : q = j := by omega
            rw [Hx.out] at hb
            cases hb; exact hk)
        go_wp2
        go_roundw
        case rel => exact ⟨j + 1, by omega, by go_num, hn2.out, trivial⟩
        case measure => simp [intOf]; omega
    · obtain rfl : j = bs.length := by omega
      have hni : (s.vex z).1 = 0 := by
        unfold Dsk.vex
        split
        · rename_i h1
          obtain ⟨q, rfl⟩ := Int.eq_ofNat_of_zero_le h1.1
          have := (Ok.out.off q (by omega) (fun hm => by
            obtain ⟨b, hb, hbk⟩ := List.mem_map.1 hm
            obtain ⟨i, hi, hqb⟩ := List.getElem_of_mem hb
            exact Hno.out i b hi (List.getElem?_eq_some_iff.2 ⟨hi, hqb⟩) (by rw [hbk]))).2
          show (s.V q).length = 0
          rw [this]; rfl
        · rfl
      go_wp2
      go_ret
      exact Ret.mk ⟨rfl, .inl ⟨rfl, hni⟩⟩
theorem ints_map (l : List Int) : l.map (Value.int .i64) = intsL l.length (fun i => l.getD i 0) := by
  unfold intsL
  refine List.ext_getElem (by simp) fun i h1 h2 => ?_
  simp at h1
  simp [h1]
set_option maxRecDepth 100000 in
set_option maxHeartbeats 4000000 in
theorem alike_ok (hV : ∀ i, (s.V i).length ≤ 100000) (h : SatL w (DskR db s :: RDsk xb s :: L)) :
    Calls Try.prog 21 #[.pointer (some ⟨db, 0, none⟩), .pointer (some ⟨xb, 0, none⟩)] w (Ret fun r w' => r = .bool true ∧ SatL w' (DskR db s :: RDsk xb s :: L)) := by
  obtain ⟨c0, hn1, hn2⟩ := RDsk.n_cell (h.pull 1 : SatL _ (RDsk _ _ :: _))
  have hd1 := refdirty_ok (h.pull 1 : SatL _ (RDsk _ _ :: _))
  have hd2 := hid (fun (w' : World) (L' : List HP) (h : SatL w' (DskR db s :: L')) => dirty_ok h)
  have hbl := hid (fun (w' : World) (L' : List HP) (h : SatL w' (DskR db s :: L')) => blocks_eq h)
  have hnc := hid (fun (w' : World) (L' : List HP) (h : SatL w' (RDsk xb s :: L')) => (RDsk.n_cell h).1)
  have hp1 := hid (fun (w' : World) (L' : List HP) (z : Int) (hr : I64 z) (h : SatL w' (DskR db s :: L')) => platterx_ok hr h)
  have hp2 := hid (fun (w' : World) (L' : List HP) (z : Int) (hr : I64 z) (h : SatL w' (RDsk xb s :: L')) => refplatterx_ok hr h)
  have hv1 := hid (fun (w' : World) (L' : List HP) (z : Int) (hr : I64 z) (h : SatL w' (DskR db s :: L')) => versionsx_ok hr hV h)
  have ha1 := hid (fun (w' : World) (L' : List HP) (z : Int) (h : SatL w' (RDsk xb s :: L')) => atx_ok (z := z) h)
  have hdl := dirty_len s
  rw [ints_map] at hd1 hd2
  have hvl := hid (fun z => (show (s.vex z).1 ≤ 100000 by unfold Dsk.vex; split; exact hV _; exact Nat.zero_le _))
  have hdn : s.dirty.length ≤ 9223372036854775807 := by omega
  generalize s.dirty.length = dn at *
  generalize (fun i => s.dirty.getD i 0) = dz at *
  generalize hM : s.n = M at *
  clear hdl
  have Hdn := hid hdn
  clear hdn
  have h0 := hid h
  clear h
  go_enter Try.func21, Try.ntmps21
  go_wp2_with (first
    | (go_at_call 32; (with_reducible refine hd1.mono ?_); rintro e w2 ⟨v, rfl, h2⟩; obtain ⟨ra, rc, rfl, r1, r2⟩ := Sl.valn h2 (intsL_len dn dz)))
  have hs1 := sat_drew.2 h2
  have S0 := hnc.out _ _ (hs1.pull 1 : SatL _ (RDsk _ _ :: _))
  refine GoE.start (fun w' => w'.cell? ⟨xb, 0, none⟩ = some (.int .i64 M)) 13 14 rfl (by kernel_rfl) ?_
  refine GoE.take (i := 0) (v := ?_) rfl (by decide) (by kernel_rfl) (by kernel_rfl) (by kernel_rfl) (by kernel_rfl) (fun _ _ _ h => h) (by rfl) ?_ (by assumption) ?_
  rotate_left
  · intro w hSw; (try dsimp only at hSw); go_simp; try (with_reducible rfl)
  try simp only [Act.put, List.setIfInBounds_toArray, List.set_cons_zero, List.set_cons_succ]
  refine GoE.take (i := 2) (v := ?_) rfl (by decide) (by kernel_rfl) (by kernel_rfl) (by kernel_rfl) (by kernel_rfl) (fun _ _ _ h => h) (by rfl) ?_ (by assumption) ?_
  rotate_left
  · intro w hSw; (try dsimp only at hSw); go_simp; try (with_reducible rfl)
  try simp only [Act.put, List.setIfInBounds_toArray, List.set_cons_zero, List.set_cons_succ]
  refine GoE.one (i := 1) rfl (by kernel_rfl) (fun K hK => ?_)
  go_simp
  go_at_call 14
  (with_reducible refine (hd2.out _ _ (hs1.bring [2, 0, 1])).mono ?_)
  rintro e w5 ⟨v5, rfl, h5⟩; obtain ⟨rb, rd, rfl, r3, r4⟩ := Sl.valn h5 (intsL_len dn dz); have S5 := hnc.out _ _ (h5.pull 3 : SatL _ (RDsk _ _ :: _))
  go_wp2_with fail
  refine hK.out _ _ (fun _ => S5) ?_
  clear hK K
  try simp only [Act.put, List.setIfInBounds_toArray, List.set_cons_zero, List.set_cons_succ]
  refine GoE.one (i := 3) rfl (by kernel_rfl) (fun K hK => ?_)
  go_simp
  go_at_call 30
  (with_reducible refine (sameints_ok (c := rd) (d := rc) h5 (Sl.gives_ints Hdn.out) (Gives.next (Gives.next (Sl.gives_ints Hdn.out)))).mono ?_)
  rintro e w7 ⟨v7, rfl, rfl, h7⟩; have S7 := hnc.out _ _ (h7.pull 3 : SatL _ (RDsk _ _ :: _))
  go_wp2_with fail
  refine hK.out _ _ (fun _ => S7) ?_
  clear hK K
  try simp only [Act.put, List.setIfInBounds_toArray, List.set_cons_zero, List.set_cons_succ]
  refine GoE.take (i := 4) (v := ?_) rfl (by decide) (by kernel_rfl) (by kernel_rfl) (by kernel_rfl) (by kernel_rfl) (fun _ _ _ h => h) (by rfl) ?_ (by assumption) ?_
  rotate_left
  · intro w hSw; (try dsimp only at hSw); go_simp; try (with_reducible rfl)
  try simp only [Act.put, List.setIfInBounds_toArray, List.set_cons_zero, List.set_cons_succ]
  refine GoE.take (i := 5) (v := ?_) rfl (by decide) (by kernel_rfl) (by kernel_rfl) (by kernel_rfl) (by kernel_rfl) (fun _ _ _ h => h) (by rfl) ?_ (by assumption) ?_
  rotate_left
  · intro w hSw; (try dsimp only at hSw); go_simp; try (with_reducible rfl)
  try simp only [Act.put, List.setIfInBounds_toArray, List.set_cons_zero, List.set_cons_succ]
  refine GoE.take (i := 6) (v := ?_) rfl (by decide) (by kernel_rfl) (by kernel_rfl) (by kernel_rfl) (by kernel_rfl) (fun _ _ _ h => h) (by rfl) ?_ (by assumption) ?_
  rotate_left
  · intro w hSw; (try dsimp only at hSw); go_simp; try (with_reducible rfl)
  try simp only [Act.put, List.setIfInBounds_toArray, List.set_cons_zero, List.set_cons_succ]
  refine GoE.take (i := 8) (v := ?_) rfl (by decide) (by kernel_rfl) (by kernel_rfl) (by kernel_rfl) (by kernel_rfl) (fun _ _ _ h => h) (by rfl) ?_ (by assumption) ?_
  rotate_left
  · intro w hSw; (try dsimp only at hSw); go_simp; try (with_reducible rfl)
  try simp only [Act.put, List.setIfInBounds_toArray, List.set_cons_zero, List.set_cons_succ]
  refine GoE.take (i := 9) (v := ?_) rfl (by decide) (by kernel_rfl) (by kernel_rfl) (by kernel_rfl) (by kernel_rfl) (fun _ _ _ h => h) (by rfl) ?_ (by assumption) ?_
  rotate_left
  · intro w hSw; (try dsimp only at hSw); go_simp; try (with_reducible rfl)
  try simp only [Act.put, List.setIfInBounds_toArray, List.set_cons_zero, List.set_cons_succ]
  refine GoE.take (i := 10) (v := ?_) rfl (by decide) (by kernel_rfl) (by kernel_rfl) (by kernel_rfl) (by kernel_rfl) (fun _ _ _ h => h) (by rfl) ?_ (by assumption) ?_
  rotate_left
  · intro w hSw; (try dsimp only at hSw); go_simp; try (with_reducible rfl)
  try simp only [Act.put, List.setIfInBounds_toArray, List.set_cons_zero, List.set_cons_succ]
  refine GoE.take (i := 11) (v := ?_) rfl (by decide) (by kernel_rfl) (by kernel_rfl) (by kernel_rfl) (by kernel_rfl) (fun _ _ _ h => h) (by rfl) ?_ (by assumption) ?_
  rotate_left
  · intro w hSw; (try dsimp only at hSw); go_simp; try (with_reducible rfl)
  try simp only [Act.put, List.setIfInBounds_toArray, List.set_cons_zero, List.set_cons_succ]
  refine GoE.one (i := 7) rfl (by kernel_rfl) (fun K hK => ?_)
  go_simp
  go_at_call 33
  (with_reducible refine (hbl.out _ _ (h7.pull 1 : SatL _ (DskR _ _ :: _))).mono ?_)
  rintro e w8 ⟨v8, rfl, rfl, rfl⟩; clear S0 S5
  go_wp2_with fail
  refine hK.out _ _ (fun _ => S7) ?_
  clear hK K
  try simp only [Act.put, List.setIfInBounds_toArray, List.set_cons_zero, List.set_cons_succ]
  refine GoE.take (i := 12) (v := ?_) rfl (by decide) (by kernel_rfl) (by kernel_rfl) (by kernel_rfl) (by kernel_rfl) (fun _ _ _ h => h) (by rfl) ?_ (by assumption) ?_
  rotate_left
  · intro w hSw; (try dsimp only at hSw); go_simp; try (with_reducible rfl)
  try simp only [Act.put, List.setIfInBounds_toArray, List.set_cons_zero, List.set_cons_succ]
  refine GoE.one (i := 13) rfl (by kernel_rfl) (fun K hK => ?_)
  go_simp
  refine hK.out _ _ (fun h => absurd rfl h) ?_
  clear hK K
  try simp only [Act.put, List.setIfInBounds_toArray, List.set_cons_zero, List.set_cons_succ]
  refine GoE.done (by kernel_rfl) ?_
  have h8 := SatL.tail (SatL.tail (h7.bring [0, 2, 1, 3]))
  clear h7 h5 hs1 h2 S7 hd1 hd2 h0 c0
  go_wp2
  go_loopw [6] (fun i wr => ∃ z : Int, -1 ≤ z ∧ z ≤ 41 ∧ i = .int .i64 z ∧ SatL wr (DskR db s :: RDsk xb s :: L)) (fun i _ => (41 - intOf i).toNat)
  case atStart => exact ⟨-1, by omega, by omega, rfl, h8⟩
  case round =>
    clear h8
    obtain ⟨z, hz1, hz2, rfl, hs⟩ := hrel
    have d0 := hnc.out _ _ (hs.pull 1 : SatL _ (RDsk _ _ :: _))
    obtain ⟨T, hT⟩ : ∃ T : Int, T = if (40 : Int) < (M : Int) then 40 else (M : Int) := ⟨_, rfl⟩
    have hmn : ∀ w : World, (Builtin.min_ #[3, 3] 3 #[.int .i64 (M : Int), .int .i64 40]).run Try.prog w = .ok (.int .i64 T) w := fun w => by rw [hT]; rfl
    have hT2 : T ≤ 40 := by rw [hT]; split <;> omega
    clear hT
    by_cases hlt : z ≤ T
    · have q1 := hp1.out _ _ z ⟨by omega, by omega⟩ hs
      have hz3 : z ≤ 40 := by omega
      have Hr := hid (show I64 z from ⟨by omega, by omega⟩)
      have Hvl := hid (hvl.out z)
      have q2 := hid (fun (w' : World) (L' : List HP) => hp2.out w' L' z Hr.out)
      have q3 := hid (fun (w' : World) (L' : List HP) => hv1.out w' L' z Hr.out)
      have q4 := hid (fun (w' : World) (L' : List HP) => ha1.out w' L' z)
      have he : (s.vex z).2 = (s.plx z).2 := by unfold Dsk.vex Dsk.plx; split <;> rfl
      clear hvl hp1 hp2 hv1 ha1 hbl
      generalize s.plx z = J at *
      obtain ⟨pb, pe⟩ := J
      generalize hJ2 : s.vex z = J2 at *
      obtain ⟨vn, ve⟩ := J2
      simp only at *
      subst he
      go_upto_region 12 with (first
        | (go_at_call 34; (with_reducible refine q1.mono ?_); rintro e w2 ⟨v, rfl, v2, rfl, h2⟩; obtain ⟨ra, rc, rfl, r1, r2⟩ := SlB.valn h2)
        | (go_at_call 35; (with_reducible refine (q2.out _ _ (h2.bring [2, 0, 1])).mono ?_); rintro e w3 ⟨v, rfl, v3, rfl, h3⟩; obtain ⟨rb, rd, rfl, r3, r4⟩ := SlB.valn h3)
        | (go_at_call 18; (with_reducible refine (q3.out _ _ (h3.bring [3, 0, 1, 2])).mono ?_); rintro e w4 ⟨v, rfl, rfl, rfl⟩)
        | (go_at_call 36; (with_reducible refine (q4.out _ _ (h3.pull 1 : SatL _ (RDsk _ _ :: _))).mono ?_); rintro e w5 ⟨v, rfl, rfl, hat⟩; have x1 := RdB.conv (SlB.rd h3); have x2 := RdB.conv (SlB.rd (h3.pull 2 : SatL _ (SlB _ _ _ :: _)))))
      have h4 := SatL.tail (SatL.tail (h3.bring [0, 2, 3, 1]))
      clear hs q1 q2 q3 q4 h2 h3
      generalize (⟨pb.toArray⟩ : ByteArray) = sb at *
      have hv := Hvl.out
      rcases hat with ⟨rfl, hz⟩ | ⟨pp, pa, pc, rfl, hc⟩
      · obtain rfl : vn = 0 := hz
        go_wp2
        go_roundw
        case rel => exact ⟨z + 1, by omega, by omega, by go_num, h4⟩
        case measure => simp [intOf]; omega
      · go_wp2
        go_roundw
        case rel => exact ⟨z + 1, by omega, by omega, by go_num, h4⟩
        case measure => simp [intOf]; omega
    · have hlt2 : T < z := by omega
      clear hp1 hp2 hv1 ha1 hvl hbl
      go_wp2
      go_ret
      exact Ret.mk ⟨rfl, hs⟩
end
end Go.Proofs.Ytjjiljijcigekaa
