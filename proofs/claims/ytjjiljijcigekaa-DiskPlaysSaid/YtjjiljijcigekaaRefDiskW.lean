/- The document's disk: Write. No condition beside the sizes that it names. -/
import Derived.Test.YtjjiljijcigekaaRefDiskC
import Derived.Test.YtjjiljijcigekaaDiskW
namespace Go.Proofs.Ytjjiljijcigekaa
set_option linter.unusedVariables false
set_option linter.unusedSimpArgs false
open Go.RowKit
theorem elem_bk : ElemOk Try.prog 52 76 1 8 [Value.pointer none] := .of (z := .pointer none) (by kernel_rfl) (by kernel_rfl) rfl rfl (by decide) (by simp [Value.oneCell'])
theorem RdB.piece {w : World} {b off n c cc : Nat} {bs : List UInt8} (h : RdB (.slice (some ⟨b, off, none⟩) n c) bs w) {i : Nat} (hi : 512 * (i + 1) ≤ bs.length) (hc : 512 ≤ cc) (hc2 : cc ≤ 9223372036854775807) : RdB (.slice (some ⟨b, off + 512 * i, none⟩) 512 cc) (rowAt bs i) w := by
  have hl : (rowAt bs i).length = 512 := by unfold rowAt; rw [List.length_take, List.length_drop]; omega
  rcases h with ⟨h, _⟩ | ⟨b', off', c', h0, h1, h2, h3⟩
  · cases h
  · cases h0
    refine .inr ⟨b, off + 512 * i, cc, by rw [hl], by omega, by omega, fun k hk => ?_⟩
    rw [hl] at hk
    rw [Nat.add_assoc, h3 (512 * i + k) (by omega)]
    congr 4
    unfold rowAt
    rw [List.getD_eq_getElem?_getD, List.getD_eq_getElem?_getD, List.getElem?_take, if_pos hk, List.getElem?_drop]
theorem rok_new {s : Dsk} {bs : List Bk} {b : Bk} (ok : ROk s bs) (hb : b.k < s.n) (hm : ¬ b.k ∈ bs.map (·.k)) : ROk s (bs ++ b :: []) := by
  refine ⟨ok.bd, ?_, fun x hx => ?_, fun i hi h => ok.off i hi (fun h1 => h (by rw [List.map_append]; exact List.mem_append_left _ h1)), ok.pl, ok.row⟩
  · refine ((List.perm_append_singleton b bs).map (·.k)).nodup_iff.2 ?_
    rw [List.map_cons, List.nodup_cons]
    exact ⟨hm, ok.nd⟩
  · rcases List.mem_append.1 hx with h | h
    · exact ok.key x h
    · rw [List.mem_singleton] at h; rw [h]; exact hb
section
variable {w : World} {L : List HP} {xb : Nat} {s : Dsk}
set_option maxRecDepth 100000 in
set_option maxHeartbeats 8000000 in
theorem refwrite_ok {p n vn vc : Nat} {va : Option Addr} {bs : List UInt8} (hb : bs.length = 512 * n) (hn : 1 ≤ n) (hp : p + n ≤ s.n) (hsm : n ≤ 1000) (hV : ∀ i, (s.V i).length ≤ 100000) (h : SatL w (RDsk xb s :: L)) (g : Gives L (RdB (.slice va vn vc) bs)) :
    Calls Try.prog 27 #[.pointer (some ⟨xb, 0, none⟩), .int .i64 p, .slice va vn vc] w (Ret fun r w' => r = .int .i64 0 ∧ SatL w' (RDsk xb (s.wr p bs n) :: L)) := by
  obtain ⟨rfl, hvc, hvc2, db, off, rfl, _⟩ := (g w h.tail).at (by omega)
  obtain ⟨lv0, bs0, ok0, h0⟩ := sat_RDsk.1 h
  have hsn : s.n ≤ 65536 := ok0.bd.2
  have c0 := SatL.cell h0 (i := 0) (v := .int .i64 s.n) rfl
  rw [hb] at hvc
  obtain ⟨z, hz⟩ : ∃ z, z = 512 * n := ⟨_, rfl⟩
  rw [hb, ← hz] at g ⊢
  rw [← hz] at hvc
  have e1 : ((z : Nat) : Int) / 512 = n := by omega
  have e2 : ((z : Nat) : Int) % 512 = 0 := by omega
  have e3 : ¬ (z : Int) = 0 := by omega
  have e4 : Int.tdiv (z : Int) 512 = n := by rw [Int.tdiv_eq_ediv_of_nonneg (by omega)]; exact e1
  have e5 : Int.tmod (z : Int) 512 = 0 := by rw [Int.tmod_eq_emod_of_nonneg (by omega)]; exact e2
  have e6 : ¬ (n : Int) = 0 := by omega
  have e7 : ¬ (p : Int) < 0 := by omega
  have e8 : ¬ (s.n : Int) ≤ (p : Int) := by omega
  have e9 : ¬ (s.n : Int) - (p : Int) < (n : Int) := by omega
  have Hz := hid hz
  have Hb := hid hb
  have HV := hid hV
  rw [← wr_zero s p bs] at h
  clear hz hb hV ok0 h0
  go_enter Try.func27, Try.ntmps27
  go_wp2
  go_loopw [8] (fun v wr => ∃ k : Nat, k ≤ n ∧ v = .int .i64 k ∧ SatL wr (RDsk xb (s.wr p bs k) :: L)) (fun v _ => n - (intOf v).toNat)
  case atStart => exact ⟨0, by omega, rfl, h⟩
  case round =>
    clear h c0
    obtain ⟨k, hk, rfl, hs⟩ := hrel
    by_cases hlt : k < n
    · have hkz : (k : Int) < (n : Int) := by omega
      obtain ⟨lv, bl, ok, h1⟩ := sat_RDsk.1 hs
      have hfw := ok.few
      have hfw2 : (s.wr p bs k).n = s.n := rfl
      rw [hfw2] at hfw
      clear hfw2
      obtain ⟨i, hi⟩ : ∃ i, i = p + k := ⟨_, rfl⟩
      have hin : i < s.n := by omega
      have hiz : IntKind.i64.wrap ((p : Int) + (k : Int)) = (i : Int) := by rw [IntWalk.i64_in _ (by omega)]; omega
      have hvi : (s.wr p bs k).V i = s.V i := by rw [hi]; exact wr_at s p bs k
      have hVl := HV.out i
      rw [← hvi] at hVl
      have hsucc := wr_succ s p bs k
      rw [← hi] at hsucc
      have hrow : (rowAt bs k).length = 512 := by unfold rowAt; rw [List.length_take, List.length_drop]; have := Hb.out; omega
      have hbk : 512 * (k + 1) ≤ bs.length := by have := Hb.out; omega
      have Hsucc := hid hsucc
      have Hvi := hid hvi
      clear hsucc hvi
      by_cases hm : i ∈ bl.map (·.k)
      case' pos =>
        obtain ⟨b, hbm, hbk0⟩ := List.mem_map.1 hm
        have hat := at_some ok hbm h1
        obtain ⟨bp, bk, bsv, bvv⟩ := b
        dsimp only at hbk0
        obtain rfl := hbk0.symm
        clear hbk0
        dsimp only at hat
        obtain ⟨A, B, rfl⟩ := List.append_of_mem hbm
        have h5 := (sat_BkR.1 (big_mid.1 (SatL.pull h1 2 : SatL wr (big _ _ :: _))))
        obtain ⟨lv5, hlv5⟩ : ∃ lv5, lv5 = lv := ⟨_, rfl⟩
        rw [← hlv5] at h5
        dsimp only at h5
        have Hok := hid ok
        have Hi := hid hi
        clear ok hm hs h1 hi hbm hlv5
        go_wp2_with (first
          | (go_at_call 36; (with_reducible refine hat.mono ?_); rintro e w' ⟨v, rfl, rfl, rfl⟩))
        generalize wr = w9 at *
      case' neg =>
        have hat := at_none ok hm h1
        have hoff := ok.off i hin hm
        have hzb := bvs_zeros 512
        rw [← hoff.1] at hzb
        have Hzb := hid hzb
        have hlb : ((bl.map bptr).length + 1) * 8 ≤ 140737488355328 := by rw [List.length_map]; omega
        have Hok0 := hid ok
        have Hm := hid hm
        have Hoff := hid hoff
        have Hi := hid hi
        clear ok hm hs hoff hzb hi
        go_wp2_with (first
          | (go_at_call 36; (with_reducible refine hat.mono ?_); rintro e w' ⟨v, rfl, rfl, rfl⟩)
          | (refine wpList_make_sl rfl (.const (.int .i64 512)) (.const (.int .i64 512)) rfl elem_byte 512 rfl rfl h1 (by omega) (by omega) ?_; intro w7 h7; rw [← Hzb.out] at h7; have h8 := h7.alloc (.cells #[.int .i64 i, .slice (some ⟨wr.heap.size, 0, none⟩) 512 512, .slice none 0 0] 79); have hz8 : (w7.alloc (.cells #[.int .i64 i, .slice (some ⟨wr.heap.size, 0, none⟩) 512 512, .slice none 0 0] 79)).heap.size = w7.heap.size + 1 := (by simp); have c8 := SatL.cell (SatL.pull h8 2 : SatL _ (cl xb _ _ :: _)) (i := 1) (v := lv) rfl)
          | (at_builtin; refine wpList_push_sl rfl (.tmp 63) (.tmp 65) rfl elem_bk (by omega) rfl (SatL.pull h8 3 : SatL _ (Sl _ _ _ :: _)) (by rw [hz8]; rfl) rfl hlb ?_; intro v8 w8 h10; obtain ⟨a8, n8, c8v, rfl⟩ := Sl.val h10; have z1 := SatL.cell (SatL.pull h10 3 : SatL _ (cl xb _ _ :: _)) (i := 1) (v := lv) rfl; have z2 := SatL.free (SatL.pull h10 3 : SatL _ (cl xb _ _ :: _)) 1))
        have h11 := (SatL.set (SatL.pull h10 3 : SatL _ (cl xb _ _ :: _)) (i := 1) (.slice a8 n8 c8v)).bring [2, 3, 4, 0, 1]
        have h5 : SatL (w8.setCell ⟨xb, 1, none⟩ (.slice a8 n8 c8v)) (cl w7.heap.size 79 #[.int .i64 i, .slice (some ⟨wr.heap.size, 0, none⟩) 512 512, .slice none 0 0] :: SlB 5 (.slice (some ⟨wr.heap.size, 0, none⟩) 512 512) ((s.wr p bs k).P i) :: RowsL (.slice none 0 0) ((s.wr p bs k).V i) :: big (BkR (s.wr p bs k)) (bl ++ []) :: cl xb 54 #[.int .i64 (s.wr p bs k).n, .slice a8 n8 c8v] :: Sl 76 (.slice a8 n8 c8v) ((bl ++ (⟨w7.heap.size, i, .slice (some ⟨wr.heap.size, 0, none⟩) 512 512, .slice none 0 0⟩ : Bk) :: []).map bptr) :: L) := by
          rw [Hoff.out.2, List.append_nil, List.map_append]
          exact SatL.bring (sat_RowsL.2 ⟨[], rfl, sat_RowsR.2 (Sl_nil ((big_nil (f := fun r : Rw => SlB 5 r.v r.d)).2 h11))⟩ : SatL _ (RowsL (.slice none 0 0) [] :: _)) [1, 2, 0]
        have Hok : Hid (ROk (s.wr p bs k) (bl ++ (⟨w7.heap.size, i, .slice (some ⟨wr.heap.size, 0, none⟩) 512 512, .slice none 0 0⟩ : Bk) :: [])) := hid (rok_new Hok0.out hin Hm.out)
        obtain ⟨A, hA⟩ : ∃ A, A = bl := ⟨_, rfl⟩
        obtain ⟨B, hB⟩ : ∃ B : List Bk, B = [] := ⟨_, rfl⟩
        rw [← hA, ← hB] at h5 Hok
        clear hA hB h11 h10 z1 z2 c8 hz8 h8 h7 Hm Hoff Hok0 Hzb hlb h1
        generalize (w8.setCell ⟨xb, 1, none⟩ (.slice a8 n8 c8v)) = w9 at *
        generalize (.slice a8 n8 c8v : Value) = lv5 at *
        generalize (.slice (some ⟨wr.heap.size, 0, none⟩) 512 512 : Value) = bsv at *
        generalize w7.heap.size = bp at *
        obtain ⟨bvv, hbvv⟩ : ∃ bvv : Value, bvv = .slice none 0 0 := ⟨_, rfl⟩
        rw [← hbvv] at h5 Hok
        clear hbvv
      all_goals
        obtain ⟨rs, hrs, h23⟩ := sat_RowsL.1 (SatL.pull h5 2 : SatL w9 (RowsL _ _ :: _))
        have h24 := sat_RowsR.1 h23
        obtain ⟨ua, uc, rfl, u1, u2⟩ := Sl.valn h24 (m := rs.length) (by rw [List.length_map])
        have hrl : rs.length ≤ 100000 := by
          have := congrArg List.length hrs
          rw [List.length_map] at this; omega
        have hA := h24.alloc (.cells #[] 5)
        have h4 : SatL (w9.alloc (.cells #[] 5)) (SlK 5 1 (.slice (some ⟨w9.heap.size, 0, none⟩) 0 0) 0 [] :: _) :=
          sat_SlK.2 (.inr ⟨w9.heap.size, 0, 0, #[], ⟨rfl, Nat.le_refl _, by decide, rfl, by simp, rfl⟩, hA⟩)
        have hpc := RdB.piece (cc := vc - 512 * k) (g _ h4.tail.tail.tail.tail.tail.tail.tail.tail) hbk (by have := Hz.out; omega) (by omega)
        have hsrc := SrcOk.ofRdB (show RdB _ _ (w9.alloc (.cells #[] 5)).drew from hpc)
        rw [hrow] at hsrc
        have h40 := sat_drew.2 h4
        have S0 : w9.drew.cell? ⟨bp, 2, none⟩ = some (.slice ua rs.length uc) := SatL.cell (SatL.pull (sat_drew.2 h24) 2 : SatL _ (cl bp _ _ :: _)) (i := 2) rfl
        have S1 : (w9.alloc (.cells #[] 5)).drew.cell? ⟨bp, 2, none⟩ = some (.slice ua rs.length uc) := SatL.cell (SatL.pull h40 3 : SatL _ (cl bp _ _ :: _)) (i := 2) rfl
        obtain ⟨X, hX⟩ : ∃ X, X = 512 * k := ⟨_, rfl⟩
        rw [← hX] at hsrc
        have x1 : (k : Int) * 512 = X := by omega
        have x2 : ((k : Int) + 1) * 512 = X + 512 := by omega
        have x3 : IntKind.i64.wrap (X : Int) = X := IntWalk.i64_in _ (by omega)
        have x4 : IntKind.i64.wrap ((X : Int) + 512) = (X : Int) + 512 := IntWalk.i64_in _ (by omega)
        have x5 : IntKind.i64.wrap ((k : Int) + 1) = (k : Int) + 1 := IntWalk.i64_in _ (by omega)
        have x6 : (0 : Int) ≤ (X : Int) + 512 := by omega
        have x7 : (X : Int) + 512 ≤ (vc : Int) := by have := Hz.out; omega
        have x8 : ¬ vc = X := by have := Hz.out; omega
        have x9 : ((X : Int) + 512).toNat = X + 512 := by omega
        have y1 : (X : Int) ≤ (X : Int) + 512 := by omega
        have y2 : X + 512 - X = 512 := by omega
        have HX := hid hX
        have Hrow := hid hrow
        clear hrow
        have Hrs := hid hrs
        have Hrl := hid hrl
        clear h5 h23 hA h4 hpc hX hrs hat hrl
        refine GoE.start (fun w' => w'.cell? ⟨bp, 2, none⟩ = some (.slice ua rs.length uc)) 18 19 rfl (by kernel_rfl) ?_
        refine GoE.take (i := 0) (v := ?_) rfl (by decide) (by kernel_rfl) (by kernel_rfl) (by kernel_rfl) (by kernel_rfl) (fun _ _ _ h => h) (by rfl) ?_ (by assumption) ?_
        rotate_left
        · intro w hSw; (try dsimp only at hSw); go_simp; try (with_reducible rfl)
        try simp only [Act.put, List.setIfInBounds_toArray, List.set_cons_zero, List.set_cons_succ]
        refine GoE.take (i := 1) (v := ?_) rfl (by decide) (by kernel_rfl) (by kernel_rfl) (by kernel_rfl) (by kernel_rfl) (fun _ _ _ h => h) (by rfl) ?_ (by assumption) ?_
        rotate_left
        · intro w hSw; (try dsimp only at hSw); go_simp; try (with_reducible rfl)
        try simp only [Act.put, List.setIfInBounds_toArray, List.set_cons_zero, List.set_cons_succ]
        refine GoE.take (i := 2) (v := ?_) rfl (by decide) (by kernel_rfl) (by kernel_rfl) (by kernel_rfl) (by kernel_rfl) (fun _ _ _ h => h) (by rfl) ?_ (by assumption) ?_
        rotate_left
        · intro w hSw; (try dsimp only at hSw); go_simp; try (with_reducible rfl)
        try simp only [Act.put, List.setIfInBounds_toArray, List.set_cons_zero, List.set_cons_succ]
        refine GoE.take (i := 3) (v := ?_) rfl (by decide) (by kernel_rfl) (by kernel_rfl) (by kernel_rfl) (by kernel_rfl) (fun _ _ _ h => h) (by rfl) ?_ (by assumption) ?_
        rotate_left
        · intro w hSw; (try dsimp only at hSw); go_simp; try (with_reducible rfl)
        try simp only [Act.put, List.setIfInBounds_toArray, List.set_cons_zero, List.set_cons_succ]
        refine GoE.take (i := 4) (v := ?_) rfl (by decide) (by kernel_rfl) (by kernel_rfl) (by kernel_rfl) (by kernel_rfl) (fun _ _ _ h => h) (by rfl) ?_ (by assumption) ?_
        rotate_left
        · intro w hSw; (try dsimp only at hSw); go_simp; try (with_reducible rfl)
        try simp only [Act.put, List.setIfInBounds_toArray, List.set_cons_zero, List.set_cons_succ]
        refine GoE.take (i := 6) (v := ?_) rfl (by decide) (by kernel_rfl) (by kernel_rfl) (by kernel_rfl) (by kernel_rfl) (fun _ _ _ h => h) (by rfl) ?_ (by assumption) ?_
        rotate_left
        · intro w hSw; (try dsimp only at hSw); go_simp; try (with_reducible rfl)
        try simp only [Act.put, List.setIfInBounds_toArray, List.set_cons_zero, List.set_cons_succ]
        refine GoE.take (i := 7) (v := ?_) rfl (by decide) (by kernel_rfl) (by kernel_rfl) (by kernel_rfl) (by kernel_rfl) (fun _ _ _ h => h) (by rfl) ?_ (by assumption) ?_
        rotate_left
        · intro w hSw; (try dsimp only at hSw); go_simp; try (with_reducible rfl)
        try simp only [Act.put, List.setIfInBounds_toArray, List.set_cons_zero, List.set_cons_succ]
        refine GoE.take (i := 8) (v := ?_) rfl (by decide) (by kernel_rfl) (by kernel_rfl) (by kernel_rfl) (by kernel_rfl) (fun _ _ _ h => h) (by rfl) ?_ (by assumption) ?_
        rotate_left
        · intro w hSw; (try dsimp only at hSw); go_simp; try (with_reducible rfl)
        try simp only [Act.put, List.setIfInBounds_toArray, List.set_cons_zero, List.set_cons_succ]
        refine GoE.take (i := 9) (v := ?_) rfl (by decide) (by kernel_rfl) (by kernel_rfl) (by kernel_rfl) (by kernel_rfl) (fun _ _ _ h => h) (by rfl) ?_ (by assumption) ?_
        rotate_left
        · intro w hSw; (try dsimp only at hSw); go_simp; try (with_reducible rfl)
        try simp only [Act.put, List.setIfInBounds_toArray, List.set_cons_zero, List.set_cons_succ]
        refine GoE.take (i := 10) (v := ?_) rfl (by decide) (by kernel_rfl) (by kernel_rfl) (by kernel_rfl) (by kernel_rfl) (fun _ _ _ h => h) (by rfl) ?_ (by assumption) ?_
        rotate_left
        · intro w hSw; (try dsimp only at hSw); go_simp; try (with_reducible rfl)
        try simp only [Act.put, List.setIfInBounds_toArray, List.set_cons_zero, List.set_cons_succ]
        refine GoE.take (i := 11) (v := ?_) rfl (by decide) (by kernel_rfl) (by kernel_rfl) (by kernel_rfl) (by kernel_rfl) (fun _ _ _ h => h) (by rfl) ?_ (by assumption) ?_
        rotate_left
        · intro w hSw; (try dsimp only at hSw); go_simp; try (with_reducible rfl)
        try simp only [Act.put, List.setIfInBounds_toArray, List.set_cons_zero, List.set_cons_succ]
        refine GoE.take (i := 12) (v := ?_) rfl (by decide) (by kernel_rfl) (by kernel_rfl) (by kernel_rfl) (by kernel_rfl) (fun _ _ _ h => h) (by rfl) ?_ (by assumption) ?_
        rotate_left
        · intro w hSw; (try dsimp only at hSw); go_simp; try (with_reducible rfl)
        try simp only [Act.put, List.setIfInBounds_toArray, List.set_cons_zero, List.set_cons_succ]
        refine GoE.one (i := 5) rfl (by kernel_rfl) (fun K hK => ?_)
        go_simp
        refine hK.out _ _ (fun _ => S1) ?_
        clear hK K
        try simp only [Act.put, List.setIfInBounds_toArray, List.set_cons_zero, List.set_cons_succ]
        refine GoE.one (i := 13) rfl (by kernel_rfl) (fun K hK => ?_)
        refine step_append_sl rfl (.tmp 74) (.tmp 81) rfl elem_byte rfl h40 rfl hsrc (bvs_one _) (by omega) (by unfold maxLen; omega) ?_
        intro v6 w6 h6 _
        rw [List.nil_append] at h6
        have h7 := (Sl.ofK h6 : SatL w6 (SlB 5 v6 (rowAt bs k) :: _))
        obtain ⟨ca, cc, rfl, _, _⟩ := SlB.valn h7
        have S2 : w6.cell? ⟨bp, 2, none⟩ = some (.slice ua rs.length uc) := SatL.cell (SatL.pull h7 3 : SatL _ (cl bp _ _ :: _)) (i := 2) rfl
        have S3 : (w6.alloc (.cells #[.slice ca (rowAt bs k).length cc] 33)).cell? ⟨bp, 2, none⟩ = some (.slice ua rs.length uc) := SatL.cell (SatL.pull (h7.alloc (.cells #[.slice ca (rowAt bs k).length cc] 33)) 4 : SatL _ (cl bp _ _ :: _)) (i := 2) rfl
        refine hK.out _ _ (fun _ => S2) ?_
        clear hK K
        try simp only [Act.put, List.setIfInBounds_toArray, List.set_cons_zero, List.set_cons_succ]
        refine GoE.one (i := 14) rfl (by kernel_rfl) (fun K hK => ?_)
        go_simp
        refine hK.out _ _ (fun _ => S3) ?_
        clear hK K
        try simp only [Act.put, List.setIfInBounds_toArray, List.set_cons_zero, List.set_cons_succ]
        refine GoE.one (i := 15) rfl (by kernel_rfl) (fun K hK => ?_)
        refine step_push1_sl (w := w6) (nb := w6.heap.size) rfl rfl (.tmp 73) (.tmp 83) rfl elem_rows (by omega) rfl h7.swap rfl rfl (by rw [List.length_map]; have := Hrl.out; omega) ?_
        intro v8 w8 h8
        obtain ⟨qa, qn, qc, rfl⟩ := Sl.val h8
        have S5 : w8.cell? ⟨bp, 2, none⟩ = some (.slice ua rs.length uc) := SatL.cell (SatL.pull h8 3 : SatL _ (cl bp _ _ :: _)) (i := 2) rfl
        have f5 := SatL.free (SatL.pull h8 3 : SatL _ (cl bp _ _ :: _)) 2
        have h10 := SatL.set (SatL.pull h8 3 : SatL _ (cl bp _ _ :: _)) (i := 2) (.slice qa qn qc)
        have h12 := (big_cons (f := fun r : Rw => SlB 5 r.v r.d) (x := (⟨.slice ca (rowAt bs k).length cc, rowAt bs k⟩ : Rw)) (xs := rs)).2 (h10.bring [2, 3, 1, 0, 4])
        have h13 := big_perm (List.perm_append_singleton (⟨.slice ca (rowAt bs k).length cc, rowAt bs k⟩ : Rw) rs).symm h12
        have h14 : SatL (w8.setCell ⟨bp, 2, none⟩ (.slice qa qn qc)) (RowsL (.slice qa qn qc) ((s.wr p bs k).V i ++ [rowAt bs k]) :: _) := sat_RowsL.2 ⟨rs ++ [⟨.slice ca (rowAt bs k).length cc, rowAt bs k⟩], by rw [List.map_append, Hrs.out]; rfl, sat_RowsR.2 (by rw [List.map_append]; exact h13.swap)⟩
        have hVn : (s.wr p bs (k + 1)).V i = (s.wr p bs k).V i ++ [rowAt bs k] := by rw [← Hsucc.out]; simp
        have h15 : SatL _ (BkR (s.wr p bs (k + 1)) ⟨bp, i, bsv, .slice qa qn qc⟩ :: _) := sat_BkR.2 (by
          show SatL _ (cl bp 79 #[.int .i64 i, bsv, .slice qa qn qc] :: SlB 5 bsv ((s.wr p bs k).P i) :: RowsL (.slice qa qn qc) ((s.wr p bs (k + 1)).V i) :: _)
          rw [hVn]
          exact h14.bring [1, 2, 0])
        have h16 := hid (rdsk_upd Hok.out (s2 := s.wr p bs (k + 1)) (b' := ⟨bp, i, bsv, .slice qa qn qc⟩) rfl (fun j _ => rfl) (fun j hj => by rw [← Hsucc.out]; simp [show ¬ j = i from hj]) (Hok.out.pl i hin) (fun r hr => by
          rw [show (s.wr p bs (k + 1)).V i = _ from hVn] at hr
          rcases List.mem_append.1 hr with h | h
          · exact Hok.out.row _ r h
          · rw [List.mem_singleton] at h; rw [h]; exact Hrow.out) rfl rfl h15)
        refine hK.out _ _ (fun _ => S5) ?_
        clear hK K h8 h10 h12 h13 h14 hVn h15
        try simp only [Act.put, List.setIfInBounds_toArray, List.set_cons_zero, List.set_cons_succ]
        refine GoE.take (i := 16) (v := ?_) rfl (by decide) (by kernel_rfl) (by kernel_rfl) (by kernel_rfl) (by kernel_rfl) (fun _ _ _ h => h) (by rfl) ?_ (by assumption) ?_
        rotate_left
        · intro w hSw; (try dsimp only at hSw); go_simp; try (with_reducible rfl)
        try simp only [Act.put, List.setIfInBounds_toArray, List.set_cons_zero, List.set_cons_succ]
        refine GoE.take (i := 17) (v := ?_) rfl (by decide) (by kernel_rfl) (by kernel_rfl) (by kernel_rfl) (by kernel_rfl) (fun _ _ _ h => h) (by rfl) ?_ (by assumption) ?_
        rotate_left
        · intro w hSw; (try dsimp only at hSw); go_simp; try (with_reducible rfl)
        try simp only [Act.put, List.setIfInBounds_toArray, List.set_cons_zero, List.set_cons_succ]
        refine GoE.one (i := 18) rfl (by kernel_rfl) (fun K hK => ?_)
        go_simp
        refine hK.out _ _ (fun h => absurd rfl h) ?_
        clear hK K
        try simp only [Act.put, List.setIfInBounds_toArray, List.set_cons_zero, List.set_cons_succ]
        refine GoE.done (by kernel_rfl) ?_
        go_wp2
        go_roundw
        case rel => exact ⟨k + 1, by omega, by go_num, h16.out⟩
        case measure => simp [intOf]; omega
    · obtain rfl : k = n := by omega
      have hR := hs
      clear hs
      go_wp2
      go_ret
      exact Ret.mk ⟨rfl, hR⟩
end
end Go.Proofs.Ytjjiljijcigekaa
