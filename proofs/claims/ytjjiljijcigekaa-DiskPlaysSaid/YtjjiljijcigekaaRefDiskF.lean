/- The document's disk: Flush. No condition beside the sizes that it names. -/
import Derived.Test.YtjjiljijcigekaaRefDiskP
namespace Go.Proofs.Ytjjiljijcigekaa
set_option linter.unusedVariables false
set_option linter.unusedSimpArgs false
open Go.RowKit
abbrev bpk (bs : List Bk) : List (Nat × Nat) := bs.map fun b => (b.p, b.k)
theorem bpk_k {a b : List Bk} (h : bpk a = bpk b) : a.map (·.k) = b.map (·.k) := by
  have := congrArg (List.map Prod.snd) h
  simpa [List.map_map, Function.comp_def] using this
theorem bpk_p {a b : List Bk} (h : bpk a = bpk b) : a.map bptr = b.map bptr := by
  have := congrArg (List.map fun x : Nat × Nat => (Value.pointer (some ⟨x.1, 0, none⟩))) h
  simp only [List.map_map, Function.comp_def] at this
  exact this
theorem rok_flushed {s : Dsk} {bs dn : List Bk} (ok : ROk s bs) (h : bpk dn = bpk bs) : ROk s.flushed dn := by
  have hk := bpk_k h
  refine ⟨ok.bd, by rw [hk]; exact ok.nd, fun b hb => ?_, fun i hi hm => ⟨?_, rfl⟩, fun i hi => rcur_len ok hi, fun i r hr => absurd (show r ∈ ([] : List (List UInt8)) from hr) List.not_mem_nil⟩
  · have : b.k ∈ bs.map (·.k) := by rw [← hk]; exact List.mem_map_of_mem hb
    obtain ⟨b', hb', e⟩ := List.mem_map.1 this
    rw [← e]; exact ok.key b' hb'
  · rw [hk] at hm
    have := ok.off i hi hm
    show s.cur i = _
    unfold Dsk.cur
    rw [this.2]; exact this.1
section
variable {w : World} {L : List HP} {xb : Nat} {s : Dsk}
set_option maxRecDepth 100000 in
set_option maxHeartbeats 4000000 in
theorem refflush_ok (hV : ∀ i, (s.V i).length ≤ 1000000) (h : SatL w (RDsk xb s :: L)) :
    Calls Try.prog 28 #[.pointer (some ⟨xb, 0, none⟩)] w (Ret fun r w' => SatL w' (RDsk xb s.flushed :: L)) := by
  obtain ⟨lv, bs, ok, h1⟩ := sat_RDsk.1 h
  clear h
  obtain ⟨la, lc, rfl, q1, q2⟩ := Sl.valn (SatL.pull h1 1 : SatL w (Sl _ _ _ :: _)) (m := bs.length) (by rw [List.length_map])
  have hb := ok.bd
  have hfw := ok.few
  have Ok := hid ok
  have HV := hid hV
  clear ok hV
  go_enter Try.func28, Try.ntmps28
  go_wp2
  go_loopw [2] (fun v wr => ∃ (j : Nat) (dn : List Bk), j ≤ bs.length ∧ v = .int .i64 j ∧ bpk dn = bpk (bs.take j) ∧ SatL wr (big (BkR s.flushed) dn :: big (BkR s) (bs.drop j) :: cl xb 54 #[.int .i64 s.n, .slice la bs.length lc] :: Sl 76 (.slice la bs.length lc) (bs.map bptr) :: L)) (fun v _ => bs.length - (intOf v).toNat)
  case atStart => exact ⟨0, [], by omega, rfl, rfl, (big_nil).2 (h1.bring [2, 0, 1])⟩
  case round =>
    clear h1
    obtain ⟨j, dn, hj, rfl, hdn, hs⟩ := hrel
    have c1 := SatL.cell (SatL.pull hs 2 : SatL wr (cl _ _ _ :: _)) (i := 1) (v := .slice la bs.length lc) rfl
    by_cases hlt : j < bs.length
    · obtain ⟨b, hbj⟩ : ∃ b, bs[j]? = some b := ⟨_, List.getElem?_eq_getElem hlt⟩
      obtain ⟨ob, oo, rfl⟩ := Sl.addr (SatL.pull hs 3 : SatL wr (Sl _ _ _ :: _)) (by omega)
      have cj := Sl.cell (SatL.pull hs 3 : SatL wr (Sl _ _ _ :: _)) (i := j) (x := .pointer (some ⟨b.p, 0, none⟩)) (by rw [List.getElem?_map, hbj]; rfl)
      have hdr : bs.drop j = b :: bs.drop (j + 1) := by rw [List.drop_eq_getElem_cons hlt, (List.getElem?_eq_some_iff.1 hbj).2]
      have h20 := (SatL.pull hs 1 : SatL wr (big (BkR s) (bs.drop j) :: _))
      rw [hdr] at h20
      have h22 := sat_BkR.1 (big_cons.1 h20)
      have hdn2 : bpk (dn ++ [b]) = bpk (bs.take (j + 1)) ∧ ∀ b2 : Bk, b2.p = b.p → b2.k = b.k → bpk (dn ++ [b2]) = bpk (bs.take (j + 1)) := by
        have e : bpk (bs.take (j + 1)) = bpk (bs.take j) ++ [(b.p, b.k)] := by unfold bpk; rw [List.take_add_one, hbj, List.map_append]; rfl
        have e2 : ∀ b2 : Bk, b2.p = b.p → b2.k = b.k → bpk (dn ++ [b2]) = bpk (bs.take (j + 1)) := fun b2 e3 e4 => by rw [e, ← hdn]; unfold bpk; rw [List.map_append, List.map_cons, List.map_nil, e3, e4]
        exact ⟨e2 b rfl rfl, e2⟩
      have Hdn2 := hid hdn2
      have hbk := Ok.out.key b (List.mem_of_getElem? hbj)
      obtain ⟨va, vc, hvv, w1, w2, hrd⟩ := RowsL.rd (SatL.pull h22 2 : SatL wr (RowsL _ _ :: _))
      have k2 : wr.cell? ⟨b.p, 2, none⟩ = some b.vv := SatL.cell h22 (i := 2) rfl
      have k1 : wr.cell? ⟨b.p, 1, none⟩ = some b.sv := SatL.cell h22 (i := 1) rfl
      rw [hvv] at k2
      have hjz : (j : Int) < (bs.length : Int) := by omega
      by_cases hv : s.V b.k = []
      · have hcs : s.cur b.k = s.P b.k := by unfold Dsk.cur; rw [hv]; rfl
        have h30 : SatL wr (BkR s.flushed b :: _) := sat_BkR.2 (by
          show SatL wr (cl b.p 79 #[.int .i64 b.k, b.sv, b.vv] :: SlB 5 b.sv (s.cur b.k) :: RowsL b.vv [] :: _)
          rw [hcs, ← hv]; exact h22)
        have h31 := big_perm (List.perm_append_singleton b dn).symm ((big_cons (f := BkR s.flushed)).2 (h30.bring [0, 2, 1]))
        rw [hv] at k2
        have k3 : wr.cell? ⟨b.p, 2, none⟩ = some (.slice va 0 vc) := k2
        clear hs h20 h22 hdn hdn2 hrd hvv hv hcs h30 k2 hbj hdr
        go_wp2
        go_roundw
        case rel => exact ⟨j + 1, dn ++ [b], by omega, by go_num, Hdn2.out.1, h31⟩
        case measure => simp [intOf]; omega
      · have hl0 : 0 < (s.V b.k).length := List.length_pos_iff.2 hv
        have hcs := cur_some (s := s) (i := b.k) rfl hv
        obtain ⟨rs, hrs, h23⟩ := sat_RowsL.1 (SatL.pull h22 2 : SatL wr (RowsL _ _ :: _))
        have h24 := sat_RowsR.1 h23
        obtain ⟨vb, vo, rfl, _⟩ := hrd hl0
        obtain ⟨vk, hvk⟩ : ∃ vk, (s.V b.k).length = vk + 1 := ⟨(s.V b.k).length - 1, by omega⟩
        rw [hvk, Nat.add_sub_cancel] at hcs
        obtain ⟨x, hx, hxd⟩ : ∃ x, rs[vk]? = some x ∧ x.d = s.cur b.k := by
          rw [← hrs, List.getElem?_map] at hcs
          obtain ⟨x, hx, e⟩ := Option.map_eq_some_iff.1 hcs
          exact ⟨x, hx, e⟩
        have k5 : wr.cell? ⟨vb, vo + vk, none⟩ = some x.v := by
          have h25 := h24
          rw [hvv] at h25
          exact Sl.cell h25 (by rw [List.getElem?_map, hx]; rfl)
        have h30 : SatL wr.drew (cl b.p 79 #[.int .i64 b.k, b.sv, b.vv] :: SlB 5 x.v (s.cur b.k) :: big (BkR s) (bs.drop (j + 1)) :: big (BkR s.flushed) dn :: cl xb 54 #[.int .i64 s.n, .slice (some ⟨ob, oo, none⟩) bs.length lc] :: Sl 76 (.slice (some ⟨ob, oo, none⟩) bs.length lc) (bs.map bptr) :: L) := by
          obtain ⟨P1, P2, hP⟩ := List.append_of_mem (List.mem_of_getElem? hx)
          have h25 := SatL.pull (sat_drew.2 h24) 1
          rw [hP] at h25
          have h26 := ((big_mid (f := fun r : Rw => SlB 5 r.v r.d)).1 h25).bring [3, 0, 5, 6, 7, 8]
          rw [hxd] at h26
          exact (SatL.pull h26 6).tail.pull 6 |>.tail |>.pull 6 |>.tail
        obtain ⟨X, hX⟩ : ∃ X, x.v = X := ⟨_, rfl⟩
        rw [hX] at h30 k5
        clear hX
        obtain ⟨xa, xc, rfl, _, _⟩ := SlB.valn (SatL.pull h30 1 : SatL _ (SlB _ _ _ :: _))
        have ew : IntKind.i64.wrap (vk : Int) = vk := IntWalk.i64_in _ (by have := HV.out b.k; omega)
        rw [hvk] at k2 w1
        have S0 : wr.drew.cell? ⟨b.p, 2, none⟩ = some (.slice (some ⟨vb, vo, none⟩) (vk + 1) vc) ∧ wr.drew.cell? ⟨vb, vo + vk, none⟩ = some (.slice xa (s.cur b.k).length xc) := ⟨k2, k5⟩
        have ez : (vk : Int) < vk + 1 := by omega
        have ez2 : (0 : Int) < (vk : Int) + 1 := by omega
        have f1 := SatL.free h30 1
        have f3 : wr.frozen? ⟨b.p, 2, none⟩ = false := SatL.free (sat_drew.1 h30) 2
        have g1 := SatL.cell h30 (i := 1) (v := b.sv) rfl
        have g3 := SatL.free (h30.set (i := 1) (.slice xa (s.cur b.k).length xc)) 2
        have g4 := SatL.cell (h30.set (i := 1) (.slice xa (s.cur b.k).length xc)) (i := 2) (v := b.vv) rfl
        have h31 := (sat_drew.1 h30).set (i := 1) (.slice xa (s.cur b.k).length xc)
        have f2 := SatL.free h31 2
        have g2 := SatL.cell h31 (i := 2) (v := b.vv) rfl
        have h32 := h31.set (i := 2) (.slice none 0 0)
        have h33 : SatL _ (BkR s.flushed ⟨b.p, b.k, (.slice xa (s.cur b.k).length xc), .slice none 0 0⟩ :: _) := sat_BkR.2 (SatL.bring (sat_RowsL.2 ⟨[], rfl, sat_RowsR.2 (Sl_nil ((big_nil (f := fun r : Rw => SlB 5 r.v r.d)).2 h32))⟩ : SatL _ (RowsL (.slice none 0 0) [] :: _)) [1, 2, 0])
        have h34 := big_perm (List.perm_append_singleton ⟨b.p, b.k, (.slice xa (s.cur b.k).length xc), .slice none 0 0⟩ dn).symm ((big_cons (f := BkR s.flushed)).2 (h33.bring [0, 2, 1]))
        rw [hvv] at g2 g4
        clear hs h20 h22 hdn hdn2 hrd hvv hv hcs h30 h31 h32 h33 h23 h24 hrs hx hxd hvk hbj hdr hl0 k5
        go_wp2
        refine GoE.start (fun w' => w'.cell? ⟨b.p, 2, none⟩ = some (.slice (some ⟨vb, vo, none⟩) (vk + 1) vc) ∧ w'.cell? ⟨vb, vo + vk, none⟩ = some (.slice xa (s.cur b.k).length xc)) 15 16 rfl (by kernel_rfl) ?_
        refine GoE.take (i := 0) (v := ?_) rfl (by decide) (by kernel_rfl) (by kernel_rfl) (by kernel_rfl) (by kernel_rfl) (fun _ _ _ h => h) (by rfl) ?_ (by assumption) ?_
        rotate_left
        · intro w hSw; (try dsimp only at hSw); go_simp; try (with_reducible rfl)
        try simp only [Act.put, List.setIfInBounds_toArray, List.set_cons_zero, List.set_cons_succ]
        refine GoE.take (i := 1) (v := ?_) rfl (by decide) (by kernel_rfl) (by kernel_rfl) (by kernel_rfl) (by kernel_rfl) (fun _ _ _ h => h) (by rfl) ?_ (by assumption) ?_
        rotate_left
        · intro w hSw; (try dsimp only at hSw); go_simp; try (with_reducible rfl)
        try simp only [Act.put, List.setIfInBounds_toArray, List.set_cons_zero, List.set_cons_succ]
        refine GoE.take (i := 2) (v := ?_) rfl (by decide) (by kernel_rfl) (by kernel_rfl) (by kernel_rfl) (by kernel_rfl) (fun _ _ _ h => h) (by rfl) ?_ (by assumption) ?_
        rotate_left
        · intro w hSw; (try dsimp only at hSw); go_simp; try (with_reducible rfl)
        try simp only [Act.put, List.setIfInBounds_toArray, List.set_cons_zero, List.set_cons_succ]
        refine GoE.take (i := 3) (v := ?_) rfl (by decide) (by kernel_rfl) (by kernel_rfl) (by kernel_rfl) (by kernel_rfl) (fun _ _ _ h => h) (by rfl) ?_ (by assumption) ?_
        rotate_left
        · intro w hSw; (try dsimp only at hSw); go_simp; try (with_reducible rfl)
        try simp only [Act.put, List.setIfInBounds_toArray, List.set_cons_zero, List.set_cons_succ]
        refine GoE.take (i := 4) (v := ?_) rfl (by decide) (by kernel_rfl) (by kernel_rfl) (by kernel_rfl) (by kernel_rfl) (fun _ _ _ h => h) (by rfl) ?_ (by assumption) ?_
        rotate_left
        · intro w hSw; (try dsimp only at hSw); go_simp; try (with_reducible rfl)
        try simp only [Act.put, List.setIfInBounds_toArray, List.set_cons_zero, List.set_cons_succ]
        refine GoE.take (i := 5) (v := ?_) rfl (by decide) (by kernel_rfl) (by kernel_rfl) (by kernel_rfl) (by kernel_rfl) (fun _ _ _ h => h) (by rfl) ?_ (by assumption) ?_
        rotate_left
        · intro w hSw; (try dsimp only at hSw); go_simp; try (with_reducible rfl)
        try simp only [Act.put, List.setIfInBounds_toArray, List.set_cons_zero, List.set_cons_succ]
        refine GoE.take (i := 6) (v := ?_) rfl (by decide) (by kernel_rfl) (by kernel_rfl) (by kernel_rfl) (by kernel_rfl) (fun _ _ _ h => h) (by rfl) ?_ (by assumption) ?_
        rotate_left
        · intro w hSw; (try dsimp only at hSw); go_simp; try (with_reducible rfl)
        try simp only [Act.put, List.setIfInBounds_toArray, List.set_cons_zero, List.set_cons_succ]
        refine GoE.take (i := 7) (v := ?_) rfl (by decide) (by kernel_rfl) (by kernel_rfl) (by kernel_rfl) (by kernel_rfl) (fun _ _ _ h => h) (by rfl) ?_ (by assumption) ?_
        rotate_left
        · intro w hSw; (try dsimp only at hSw); go_simp; try (with_reducible rfl)
        try simp only [Act.put, List.setIfInBounds_toArray, List.set_cons_zero, List.set_cons_succ]
        refine GoE.take (i := 8) (v := ?_) rfl (by decide) (by kernel_rfl) (by kernel_rfl) (by kernel_rfl) (by kernel_rfl) (fun _ _ _ h => h) (by rfl) ?_ (by assumption) ?_
        rotate_left
        · intro w hSw; (try dsimp only at hSw); go_simp; try (with_reducible rfl)
        try simp only [Act.put, List.setIfInBounds_toArray, List.set_cons_zero, List.set_cons_succ]
        refine GoE.take (i := 9) (v := ?_) rfl (by decide) (by kernel_rfl) (by kernel_rfl) (by kernel_rfl) (by kernel_rfl) (fun _ _ _ h => h) (by rfl) ?_ (by assumption) ?_
        rotate_left
        · intro w hSw; (try dsimp only at hSw); go_simp; try (with_reducible rfl)
        try simp only [Act.put, List.setIfInBounds_toArray, List.set_cons_zero, List.set_cons_succ]
        refine GoE.take (i := 10) (v := ?_) rfl (by decide) (by kernel_rfl) (by kernel_rfl) (by kernel_rfl) (by kernel_rfl) (fun _ _ _ h => h) (by rfl) ?_ (by assumption) ?_
        rotate_left
        · intro w hSw; (try dsimp only at hSw); go_simp; try (with_reducible rfl)
        try simp only [Act.put, List.setIfInBounds_toArray, List.set_cons_zero, List.set_cons_succ]
        refine GoE.take (i := 11) (v := ?_) rfl (by decide) (by kernel_rfl) (by kernel_rfl) (by kernel_rfl) (by kernel_rfl) (fun _ _ _ h => h) (by rfl) ?_ (by assumption) ?_
        rotate_left
        · intro w hSw; (try dsimp only at hSw); go_simp; try (with_reducible rfl)
        try simp only [Act.put, List.setIfInBounds_toArray, List.set_cons_zero, List.set_cons_succ]
        refine GoE.take (i := 12) (v := ?_) rfl (by decide) (by kernel_rfl) (by kernel_rfl) (by kernel_rfl) (by kernel_rfl) (fun _ _ _ h => h) (by rfl) ?_ (by assumption) ?_
        rotate_left
        · intro w hSw; (try dsimp only at hSw); go_simp; try (with_reducible rfl)
        try simp only [Act.put, List.setIfInBounds_toArray, List.set_cons_zero, List.set_cons_succ]
        refine GoE.take (i := 13) (v := ?_) rfl (by decide) (by kernel_rfl) (by kernel_rfl) (by kernel_rfl) (by kernel_rfl) (fun _ _ _ h => h) (by rfl) ?_ (by assumption) ?_
        rotate_left
        · intro w hSw; (try dsimp only at hSw); go_simp; try (with_reducible rfl)
        try simp only [Act.put, List.setIfInBounds_toArray, List.set_cons_zero, List.set_cons_succ]
        refine GoE.take (i := 14) (v := ?_) rfl (by decide) (by kernel_rfl) (by kernel_rfl) (by kernel_rfl) (by kernel_rfl) (fun _ _ _ h => h) (by rfl) ?_ (by assumption) ?_
        rotate_left
        · intro w hSw; (try dsimp only at hSw); go_simp; try (with_reducible rfl)
        try simp only [Act.put, List.setIfInBounds_toArray, List.set_cons_zero, List.set_cons_succ]
        refine GoE.one (i := 15) rfl (by kernel_rfl) (fun K hK => ?_)
        go_simp
        refine hK.out _ _ (fun h => absurd rfl h) ?_
        clear hK K
        try simp only [Act.put, List.setIfInBounds_toArray, List.set_cons_zero, List.set_cons_succ]
        refine GoE.done (by kernel_rfl) ?_
        go_wp2
        go_roundw
        case rel => exact ⟨j + 1, dn ++ [⟨b.p, b.k, (.slice xa (s.cur b.k).length xc), .slice none 0 0⟩], by omega, by go_num, Hdn2.out.2 _ rfl rfl, sat_drew.2 h34⟩
        case measure => simp [intOf]; omega
    · obtain rfl : j = bs.length := by omega
      have hR : SatL wr (RDsk xb s.flushed :: L) := by
        rw [List.take_length] at hdn
        rw [List.drop_length, ← bpk_p hdn] at hs
        exact sat_RDsk.2 ⟨_, dn, rok_flushed Ok.out hdn, SatL.tail (hs.bring [1, 2, 3, 0])⟩
      clear hs hdn
      go_wp2
      go_end0
      exact Ret.mk hR
end
end Go.Proofs.Ytjjiljijcigekaa
