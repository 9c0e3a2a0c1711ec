/- The document's disk: Read, Platter. No condition beside the sizes that it names. -/
import Derived.Test.YtjjiljijcigekaaRefDisk
import Derived.Test.YtjjiljijcigekaaDiskQ
import Derived.Test.YtjjiljijcigekaaRegE
import Derived.Test.YtjjiljijcigekaaDiskF
import Derived.Test.YtjjiljijcigekaaApp
namespace Go.Proofs.Ytjjiljijcigekaa
set_option linter.unusedVariables false
set_option linter.unusedSimpArgs false
open Go.RowKit
theorem bk_inj {bs : List Bk} (hn : (bs.map (·.k)).Nodup) {b b' : Bk} (h : b ∈ bs) (h' : b' ∈ bs) (e : b.k = b'.k) : b = b' := by
  obtain ⟨i, hi, rfl⟩ := List.getElem_of_mem h
  obtain ⟨j, hj, rfl⟩ := List.getElem_of_mem h'
  have : i = j := (List.getElem?_inj (by rw [List.length_map]; exact hi) hn).1 (by rw [List.getElem?_map, List.getElem?_map, List.getElem?_eq_getElem hi, List.getElem?_eq_getElem hj]; simp [e])
  subst this; rfl
section
variable {w : World} {L : List HP} {xb : Nat} {s : Dsk} {lv : Value} {bs : List Bk}
theorem at_none {i : Nat} (ok : ROk s bs) (hm : ¬ i ∈ bs.map (·.k)) (h : SatL w (cl xb 54 #[.int .i64 s.n, lv] :: Sl 76 lv (bs.map bptr) :: big (BkR s) bs :: L)) :
    Calls Try.prog 36 #[.pointer (some ⟨xb, 0, none⟩), .int .i64 i] w (Ret fun r w' => r = .pointer none ∧ w = w') := by
  refine (at_eq (i := i) (by have := ok.few; have := ok.bd; omega) h).mono ?_
  rintro e w' ⟨v, rfl, h1 | ⟨b, hb, hk, _⟩, rfl⟩
  · exact Ret.mk ⟨h1.2, rfl⟩
  · exact absurd (List.mem_map.2 ⟨b, hb, hk⟩) hm
theorem at_some {b : Bk} (ok : ROk s bs) (hb : b ∈ bs) (h : SatL w (cl xb 54 #[.int .i64 s.n, lv] :: Sl 76 lv (bs.map bptr) :: big (BkR s) bs :: L)) :
    Calls Try.prog 36 #[.pointer (some ⟨xb, 0, none⟩), .int .i64 b.k] w (Ret fun r w' => r = .pointer (some ⟨b.p, 0, none⟩) ∧ w = w') := by
  refine (at_eq (i := b.k) (by have := ok.few; have := ok.bd; omega) h).mono ?_
  rintro e w' ⟨v, rfl, h1 | ⟨b', hb', hk, rfl⟩, rfl⟩
  · exact absurd (List.mem_map.2 ⟨b, hb, rfl⟩) h1.1
  · rw [bk_inj ok.nd hb' hb hk]; exact Ret.mk ⟨rfl, rfl⟩
/-- what a block's fields read as -/
theorem bk_rd {b : Bk} (hb : b ∈ bs) (h : SatL w (big (BkR s) bs :: L)) : RdB b.sv (s.P b.k) w ∧ ∃ a c, b.vv = .slice a (s.V b.k).length c ∧ (s.V b.k).length ≤ c ∧ c ≤ 9223372036854775807 ∧ (0 < (s.V b.k).length → ∃ vb vo, a = some ⟨vb, vo, none⟩ ∧ ∀ (j : Nat) r, (s.V b.k)[j]? = some r → ∃ u, w.cell? ⟨vb, vo + j, none⟩ = some u ∧ RdB u r w) := by
  obtain ⟨A, B, rfl⟩ := List.append_of_mem hb
  have h2 := sat_BkR.1 (big_mid.1 h)
  exact ⟨SlB.rd (h2.pull 1 : SatL w (SlB _ _ _ :: _)), RowsL.rd (SatL.pull h2 2 : SatL w (RowsL _ _ :: _))⟩
theorem rcur_len (ok : ROk s bs) {i : Nat} (hi : i < s.n) : (s.cur i).length = 512 := by
  unfold Dsk.cur
  cases hv : (s.V i).getLast? with
  | none => exact ok.pl i hi
  | some r => exact ok.row i r (List.mem_of_getLast? hv)
theorem rread_len (ok : ROk s bs) {p : Nat} : ∀ n, p + n ≤ s.n → (s.read p n).length = 512 * n
  | 0, _ => rfl
  | n + 1, h => by rw [read_snoc, List.length_append, rread_len ok n (by omega), rcur_len ok (by omega)]; omega
set_option maxRecDepth 100000 in
set_option maxHeartbeats 4000000 in
theorem refread_ok {p n : Nat} (hn : 1 ≤ n) (hp : p + n ≤ s.n) (hV : ∀ i, (s.V i).length ≤ 1000000) (h : SatL w (RDsk xb s :: L)) :
    Calls Try.prog 31 #[.pointer (some ⟨xb, 0, none⟩), .int .i64 p, .int .i64 n] w (Ret fun r w' => ∃ v, r = .tuple #[v, .int .i64 0] ∧ SatL w' (SlB 5 v (s.read p n) :: RDsk xb s :: L)) := by
  obtain ⟨lv, bs, ok, h1⟩ := sat_RDsk.1 h
  clear h
  have c0 := SatL.cell h1 (i := 0) (v := .int .i64 s.n) rfl
  have hb := ok.bd
  have e1 : ¬ (n : Int) < 1 := by omega
  have e2 : ¬ (p : Int) < 0 := by omega
  have e3 : ¬ (s.n : Int) ≤ (p : Int) := by omega
  have e4 : ¬ (s.n : Int) - (p : Int) < (n : Int) := by omega
  have hrl := hid (fun (j : Nat) (hj : p + j ≤ s.n) => rread_len ok j hj)
  have hcl := hid (fun (j : Nat) (hj : j < s.n) => rcur_len ok hj)
  have Ok := hid ok
  have HV := hid hV
  clear ok hV
  go_enter Try.func31, Try.ntmps31
  go_wp2
  go_loopw [8, 9] (fun out v wr => ∃ j i : Nat, j ≤ n ∧ i = p + j ∧ v = .int .i64 i ∧ SatL wr (SlB 5 out (s.read p j) :: cl xb 54 #[.int .i64 s.n, lv] :: Sl 76 lv (bs.map bptr) :: big (BkR s) bs :: L)) (fun _ i _ => p + n - (intOf i).toNat)
  case atStart => exact ⟨0, p, by omega, rfl, rfl, Sl_nil h1⟩
  case round =>
    clear h1 c0
    obtain ⟨j, i, hj, hi, rfl, hs⟩ := hrel
    obtain ⟨oa, oc, rfl, o1, o2⟩ := SlB.valn hs
    have hlen := hrl.out j (by omega)
    by_cases hlt : j < n
    · have hin : i < s.n := by omega
      have hcur := hcl.out i hin
      have hsn' := read_snoc s p j
      rw [← hi] at hsn'
      have hiz : (i : Int) < (p : Int) + (n : Int) := by omega
      have hs2 := hs.bring [1, 2, 3, 0]
      have hK : SatL wr (SlK 5 1 (.slice oa (s.read p j).length oc) (s.read p j).length (bvs (s.read p j)) :: _) := Sl.toK hs (bvs_len _)
      have e5 : ((s.read p j).length + 512) * 1 ≤ 140737488355328 := by omega
      have e6 : (s.read p j).length + 512 ≤ maxLen := by unfold maxLen; omega
      have Hi := hid hi
      have Hlen := hid hlen
      have Hsn := hid hsn'
      by_cases hm : i ∈ bs.map (·.k)
      · obtain ⟨b, hbm, rfl⟩ := List.mem_map.1 hm
        have hat := at_some Ok.out hbm hs2
        obtain ⟨_, k1, k2⟩ := bk_cells hbm (SatL.pull hs2 2 : SatL wr (big _ _ :: _))
        obtain ⟨hst, va, vc, hvv, w1, w2, hrd⟩ := bk_rd hbm (SatL.pull hs2 2 : SatL wr (big _ _ :: _))
        rw [hvv] at k2
        by_cases hv : s.V b.k = []
        · have hcs : s.cur b.k = s.P b.k := by unfold Dsk.cur; rw [hv]; rfl
          have hsrc := SrcOk.ofRdB hst
          rw [← hcs, hcur] at hsrc
          rw [hv] at k2
          have Hcs := hid hcs
          clear hi hlen hsn' hs hm hrd hv hvv hcs hst hcur hs2
          obtain ⟨bp, bk, bsv, bvv⟩ := b
          simp only at *
          generalize s.read p j = rd at *
          generalize s.cur bk = cu at *
          go_wp2_with (first
            | (go_at_call 36; (with_reducible refine hat.mono ?_); rintro e w' ⟨v, rfl, rfl, rfl⟩)
            | (at_builtin; refine wpList_append_sl rfl (.tmp 46) (.tmp 50) rfl elem_byte rfl hK rfl hsrc (bvs_one _) e5 e6 ?_; intro v9 w9 h9 _))
          go_roundw
          case rel => exact ⟨j + 1, bk + 1, by omega, by have := Hi.out; omega, by go_num, by rw [Hsn.out]; exact SlB.app (Sl.ofK h9)⟩
          case measure => have := Hi.out; simp [intOf]; omega
        · have hl0 : 0 < (s.V b.k).length := List.length_pos_iff.2 hv
          have hcs := cur_some (s := s) (i := b.k) rfl hv
          obtain ⟨A, B, hAB⟩ := List.append_of_mem hbm
          have h20 := (hs.bring [3, 0, 1, 2] : SatL wr (big (BkR s) bs :: _))
          obtain ⟨PL, hPL⟩ : ∃ PL, PL = bs.map bptr := ⟨_, rfl⟩
          rw [← hPL] at h20
          rw [hAB] at h20
          obtain ⟨rs, hrs, h23⟩ := sat_RowsL.1 (SatL.pull (sat_BkR.1 (big_mid.1 h20)) 2 : SatL wr (RowsL _ _ :: _))
          have h25 := (sat_RowsR.1 h23).bring [5]
          have hback : ∀ (w' : World) (L' : List HP), SatL w' (Sl 33 b.vv (rs.map (·.v)) :: big (fun r : Rw => SlB 5 r.v r.d) rs :: cl b.p 79 #[.int .i64 b.k, b.sv, b.vv] :: SlB 5 b.sv (s.P b.k) :: big (BkR s) (A ++ B) :: cl xb 54 #[.int .i64 s.n, lv] :: Sl 76 lv PL :: L') → SatL w' (cl xb 54 #[.int .i64 s.n, lv] :: Sl 76 lv (bs.map bptr) :: big (BkR s) bs :: L') := by
            intro w' L' h
            have h1 : SatL w' (RowsL b.vv (s.V b.k) :: _) := sat_RowsL.2 ⟨rs, hrs, sat_RowsR.2 h⟩
            have h2 := sat_BkR.2 (h1.bring [1, 2, 0])
            have h3 := (big_mid (f := BkR s)).2 h2
            rw [← hPL, hAB]
            exact h3.bring [1, 2, 0]
          have Hback := hid hback
          obtain ⟨vb, vo, rfl, _⟩ := hrd hl0
          obtain ⟨vk, hvk⟩ : ∃ vk, (s.V b.k).length = vk + 1 := ⟨(s.V b.k).length - 1, by omega⟩
          rw [hvk, Nat.add_sub_cancel] at hcs
          obtain ⟨x, hx, hxd⟩ : ∃ x, rs[vk]? = some x ∧ x.d = s.cur b.k := by
            rw [← hrs, List.getElem?_map] at hcs
            obtain ⟨x, hx, e⟩ := Option.map_eq_some_iff.1 hcs
            exact ⟨x, hx, e⟩
          have hcell := fun (w' : World) (O : HP) (L' : List HP) (h : SatL w' (O :: Sl 33 b.vv (rs.map (·.v)) :: big (fun r : Rw => SlB 5 r.v r.d) rs :: cl b.p 79 #[.int .i64 b.k, b.sv, b.vv] :: L')) => (by
            have h1 := h.tail
            have h2 := h1
            have h5 : w'.cell? ⟨b.p, 2, none⟩ = some b.vv := SatL.cell (SatL.pull h1 2 : SatL w' (cl b.p _ _ :: _)) (i := 2) rfl
            rw [hvv] at h2 h5
            exact ⟨h5, Sl.cell h2 (by rw [List.getElem?_map, hx]; rfl)⟩ : w'.cell? ⟨b.p, 2, none⟩ = some (.slice (some ⟨vb, vo, none⟩) (s.V b.k).length vc) ∧ w'.cell? ⟨vb, vo + vk, none⟩ = some x.v)
          have hK2 : SatL wr.drew (SlK 5 1 (.slice oa (s.read p j).length oc) (s.read p j).length (bvs (s.read p j)) :: _) := Sl.toK (sat_drew.2 h25 : SatL wr.drew (Sl _ _ (bvs _) :: _)) (bvs_len _)
          have hru : RdB x.v (s.cur b.k) wr.drew := by
            obtain ⟨P1, P2, hP⟩ := List.append_of_mem (List.mem_of_getElem? hx)
            have h30 := (SatL.pull (sat_drew.2 h25) 2 : SatL wr.drew (big (fun r : Rw => SlB 5 r.v r.d) rs :: _))
            rw [hP] at h30
            rw [← hxd]
            exact SlB.rd ((big_mid (f := fun r : Rw => SlB 5 r.v r.d)).1 h30 : SatL _ (SlB 5 x.v x.d :: _))
          have hsrc := SrcOk.ofRdB hru
          rw [hcur] at hsrc
          have S0 := hcell _ _ _ (sat_drew.2 h25)
          have Hcell := hid hcell
          rw [hvk] at S0 w1 hl0 k2
          have ew : IntKind.i64.wrap (vk : Int) = vk := IntWalk.i64_in _ (by omega)
          have ez : (vk : Int) < vk + 1 := by omega
          have ez2 : (0 : Int) < (vk : Int) + 1 := by omega
          have Hvk := hid hvk
          clear hi hlen hsn' hs hm hrd hv hvv hcs hst hcur hs2 hvk hru hback hcell h20 h23 h25 hAB hPL hrs hx hxd hK
          generalize s.read p j = rd at *
          generalize s.cur b.k = cu at *
          go_wp2_with (first
            | (go_at_call 36; (with_reducible refine hat.mono ?_); rintro e w' ⟨v, rfl, rfl, rfl⟩))
          refine GoE.start (fun w' => w'.cell? ⟨b.p, 2, none⟩ = some (.slice (some ⟨vb, vo, none⟩) (vk + 1) vc) ∧ w'.cell? ⟨vb, vo + vk, none⟩ = some x.v) 14 15 rfl (by kernel_rfl) ?_
          refine GoE.take (i := 0) (v := ?_) rfl (by decide) (by kernel_rfl) (by kernel_rfl) (by kernel_rfl) (by kernel_rfl) (fun _ _ _ h => h) (by rfl) ?_ (by assumption) ?_
          rotate_left
          · intro w hSw; (try dsimp only at hSw); go_simp; try (with_reducible rfl)
          try simp only [Act.put, List.setIfInBounds_toArray, List.set_cons_zero, List.set_cons_succ]
          refine GoE.take (i := 1) (v := ?_) rfl (by decide) (by kernel_rfl) (by kernel_rfl) (by kernel_rfl) (by kernel_rfl) (fun _ _ _ h => h) (by rfl) ?_ (by assumption) ?_
          rotate_left
          · intro w hSw; (try dsimp only at hSw); go_simp; try (with_reducible rfl)
          try simp only [Act.put, List.setIfInBounds_toArray, List.set_cons_zero, List.set_cons_succ]
          refine GoE.take (i := 2) (v := ?_) rfl (by decide) (by kernel_rfl) (by kernel_rfl) (by kernel_rfl) (by kernel_rfl) (fun _ _ _ h => h) (by rfl) ?_ (by assumption) ?_
          rotate_left
          · intro w hSw; (try dsimp only at hSw); go_simp; try (with_reducible rfl)
          try simp only [Act.put, List.setIfInBounds_toArray, List.set_cons_zero, List.set_cons_succ]
          refine GoE.take (i := 3) (v := ?_) rfl (by decide) (by kernel_rfl) (by kernel_rfl) (by kernel_rfl) (by kernel_rfl) (fun _ _ _ h => h) (by rfl) ?_ (by assumption) ?_
          rotate_left
          · intro w hSw; (try dsimp only at hSw); go_simp; try (with_reducible rfl)
          try simp only [Act.put, List.setIfInBounds_toArray, List.set_cons_zero, List.set_cons_succ]
          refine GoE.take (i := 4) (v := ?_) rfl (by decide) (by kernel_rfl) (by kernel_rfl) (by kernel_rfl) (by kernel_rfl) (fun _ _ _ h => h) (by rfl) ?_ (by assumption) ?_
          rotate_left
          · intro w hSw; (try dsimp only at hSw); go_simp; try (with_reducible rfl)
          try simp only [Act.put, List.setIfInBounds_toArray, List.set_cons_zero, List.set_cons_succ]
          refine GoE.take (i := 5) (v := ?_) rfl (by decide) (by kernel_rfl) (by kernel_rfl) (by kernel_rfl) (by kernel_rfl) (fun _ _ _ h => h) (by rfl) ?_ (by assumption) ?_
          rotate_left
          · intro w hSw; (try dsimp only at hSw); go_simp; try (with_reducible rfl)
          try simp only [Act.put, List.setIfInBounds_toArray, List.set_cons_zero, List.set_cons_succ]
          refine GoE.take (i := 6) (v := ?_) rfl (by decide) (by kernel_rfl) (by kernel_rfl) (by kernel_rfl) (by kernel_rfl) (fun _ _ _ h => h) (by rfl) ?_ (by assumption) ?_
          rotate_left
          · intro w hSw; (try dsimp only at hSw); go_simp; try (with_reducible rfl)
          try simp only [Act.put, List.setIfInBounds_toArray, List.set_cons_zero, List.set_cons_succ]
          refine GoE.take (i := 7) (v := ?_) rfl (by decide) (by kernel_rfl) (by kernel_rfl) (by kernel_rfl) (by kernel_rfl) (fun _ _ _ h => h) (by rfl) ?_ (by assumption) ?_
          rotate_left
          · intro w hSw; (try dsimp only at hSw); go_simp; try (with_reducible rfl)
          try simp only [Act.put, List.setIfInBounds_toArray, List.set_cons_zero, List.set_cons_succ]
          refine GoE.take (i := 8) (v := ?_) rfl (by decide) (by kernel_rfl) (by kernel_rfl) (by kernel_rfl) (by kernel_rfl) (fun _ _ _ h => h) (by rfl) ?_ (by assumption) ?_
          rotate_left
          · intro w hSw; (try dsimp only at hSw); go_simp; try (with_reducible rfl)
          try simp only [Act.put, List.setIfInBounds_toArray, List.set_cons_zero, List.set_cons_succ]
          refine GoE.take (i := 9) (v := ?_) rfl (by decide) (by kernel_rfl) (by kernel_rfl) (by kernel_rfl) (by kernel_rfl) (fun _ _ _ h => h) (by rfl) ?_ (by assumption) ?_
          rotate_left
          · intro w hSw; (try dsimp only at hSw); go_simp; try (with_reducible rfl)
          try simp only [Act.put, List.setIfInBounds_toArray, List.set_cons_zero, List.set_cons_succ]
          refine GoE.take (i := 10) (v := ?_) rfl (by decide) (by kernel_rfl) (by kernel_rfl) (by kernel_rfl) (by kernel_rfl) (fun _ _ _ h => h) (by rfl) ?_ (by assumption) ?_
          rotate_left
          · intro w hSw; (try dsimp only at hSw); go_simp; try (with_reducible rfl)
          try simp only [Act.put, List.setIfInBounds_toArray, List.set_cons_zero, List.set_cons_succ]
          refine GoE.take (i := 11) (v := ?_) rfl (by decide) (by kernel_rfl) (by kernel_rfl) (by kernel_rfl) (by kernel_rfl) (fun _ _ _ h => h) (by rfl) ?_ (by assumption) ?_
          rotate_left
          · intro w hSw; (try dsimp only at hSw); go_simp; try (with_reducible rfl)
          try simp only [Act.put, List.setIfInBounds_toArray, List.set_cons_zero, List.set_cons_succ]
          refine GoE.take (i := 12) (v := ?_) rfl (by decide) (by kernel_rfl) (by kernel_rfl) (by kernel_rfl) (by kernel_rfl) (fun _ _ _ h => h) (by rfl) ?_ (by assumption) ?_
          rotate_left
          · intro w hSw; (try dsimp only at hSw); go_simp; try (with_reducible rfl)
          try simp only [Act.put, List.setIfInBounds_toArray, List.set_cons_zero, List.set_cons_succ]
          refine GoE.one (i := 13) rfl (by kernel_rfl) (fun K hK => ?_)
          refine step_append_sl rfl (.tmp 64) (.tmp 76) rfl elem_byte rfl hK2 rfl hsrc (bvs_one _) e5 e6 ?_
          intro v9 w9 h9 _
          have S9 := Hcell.out _ _ _ h9
          rw [Hvk.out] at S9
          refine hK.out _ _ (fun _ => S9) ?_
          clear hK K
          try simp only [Act.put, List.setIfInBounds_toArray, List.set_cons_zero, List.set_cons_succ]
          refine GoE.one (i := 14) rfl (by kernel_rfl) (fun K hK => ?_)
          go_simp
          refine hK.out _ _ (fun h => absurd rfl h) ?_
          clear hK K
          try simp only [Act.put, List.setIfInBounds_toArray, List.set_cons_zero, List.set_cons_succ]
          refine GoE.done (by kernel_rfl) ?_
          go_wp2
          go_roundw
          case rel => exact ⟨j + 1, b.k + 1, by omega, by have := Hi.out; omega, by go_num, by rw [Hsn.out]; exact SatL.bring (Hback.out _ _ (SatL.bring (SlB.app (Sl.ofK h9)) [1, 2, 3, 4, 5, 6, 7])) [3]⟩
          case measure => have := Hi.out; simp [intOf]; omega
      · have hat := at_none Ok.out hm hs2
        have hoff := Ok.out.off i hin hm
        have hcs : s.cur i = List.replicate 512 0 := by unfold Dsk.cur; rw [hoff.2]; exact hoff.1
        have hzb := bvs_zeros 512
        rw [← hcs] at hzb
        have Hzb := hid hzb
        have e7 : ((bvs (s.read p j)).length + 512) * 1 ≤ 140737488355328 := by rw [bvs_len]; omega
        clear hi hlen hsn' hm hoff hcs hzb hcur hs2 hK
        generalize s.read p j = rd at *
        generalize s.cur i = cu at *
        have e8 : 0 < 1 := by omega
        go_wp2_with (first
          | (go_at_call 36; (with_reducible refine hat.mono ?_); rintro e w' ⟨v, rfl, rfl, rfl⟩)
          | (at_builtin; refine wpList_appendz_sl (m := 512) rfl (.tmp 55) (.const (.int .i64 512)) rfl elem_byte (by kernel_rfl) rfl hs rfl e8 e7 ?_; intro v9 w9 h9; rw [← Hzb.out] at h9))
        go_roundw
        case rel => exact ⟨j + 1, i + 1, by omega, by have := Hi.out; omega, by go_num, by rw [Hsn.out]; exact SlB.app h9⟩
        case measure => have := Hi.out; simp [intOf]; omega
    · obtain rfl : j = n := by omega
      have hiz : ¬ (i : Int) < (p : Int) + (j : Int) := by omega
      have hR := SatL.swap (sat_RDsk.2 ⟨_, _, Ok.out, hs.bring [1, 2, 3, 0]⟩)
      clear hlen hi hs
      go_wp2
      go_ret2
      exact Ret.mk ⟨_, rfl, hR⟩
end
end Go.Proofs.Ytjjiljijcigekaa
