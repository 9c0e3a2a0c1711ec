/- done of chapter 7's statements; CachePlays. No condition beside the sizes that each names. -/
import Derived.Test.YtlmjjfgnpcghgaaLaw7B
namespace Go.Proofs.Ytlmjjfgnpcghgaa
set_option linter.unusedVariables false
set_option linter.unusedSimpArgs false
open Go.RowKit
def DoneP (pb xb : Nat) (most : Int) (i : Nat) (L : List HP) (v : Value) (w' : World) : Prop :=
  v = .bool true ∧ ∃ bs', BI most (i + 1) bs' ∧ SatL w' (CacheA pb most bs' :: RCacheA xb most bs' :: L)
section
variable {w : World} {L : List HP} {pb xb i : Nat} {most : Int} {bs : List Blk}
set_option maxRecDepth 100000 in
set_option maxHeartbeats 8000000 in
theorem done7_ok {kd N Sz : Int} {B : Nat} (hB : B < 256) (hm : 1 ≤ most ∧ most ≤ 1024) (hi : i ≤ 900) (hI : BI most i bs) (h : SatL w (CacheA pb most bs :: RCacheA xb most bs :: L)) :
    Calls Try.prog 19 #[.pointer (some ⟨pb, 0, none⟩), .pointer (some ⟨xb, 0, none⟩), .agg #[.int .i64 kd, .int .i64 N, .int .i64 Sz, .int .u8 (B : Int)]] w (Ret fun v w' => DoneP pb xb most i L v w') := by
  have h1 := h.alloc (.cells #[.int .i64 kd, .int .i64 N, .int .i64 Sz, .int .u8 (B : Int)] 44)
  have h1b : SatL (w.alloc (.cells #[.int .i64 kd, .int .i64 N, .int .i64 Sz, .int .u8 (B : Int)] 44)) (cl w.heap.size 44 #[.int .i64 kd, .int .i64 N, .int .i64 Sz, .int .u8 (B : Int)] :: _) := h1
  have Hc := hid (fun (w' : World) (X : List HP) (h : SatL w' (cl w.heap.size 44 #[.int .i64 kd, .int .i64 N, .int .i64 Sz, .int .u8 (B : Int)] :: X)) => (⟨h.cell (i := 0) rfl, h.cell (i := 1) rfl, h.cell (i := 2) rfl, h.cell (i := 3) rfl⟩ : w'.cell? ⟨w.heap.size, 0, none⟩ = some (.int .i64 kd) ∧ w'.cell? ⟨w.heap.size, 1, none⟩ = some (.int .i64 N) ∧ w'.cell? ⟨w.heap.size, 2, none⟩ = some (.int .i64 Sz) ∧ w'.cell? ⟨w.heap.size, 3, none⟩ = some (.int .u8 (B : Int))))
  obtain ⟨D, hD⟩ : ∃ D, D = dataL B (dsz Sz) := ⟨_, rfl⟩
  have hDl : D.length ≤ 2000 := by rw [hD, dataL_len]; exact dsz_le Sz
  have hdat := hid (fun (w' : World) (L : List HP) (h : SatL w' L) => (by have := data_ok (kd := kd) (N := N) (s := Sz) hB h; rw [← hD] at this; exact this : Calls Try.prog 24 #[.agg #[.int .i64 kd, .int .i64 N, .int .i64 Sz, .int .u8 (B : Int)]] w' (Ret fun r w'' => SatL w'' (SlB 5 r D :: L))))
  have hnd := rcache_nodup (h.pull 1 : SatL w (RCacheA _ _ _ :: _))
  obtain ⟨e0, e1, e2, e3⟩ := Hc.out _ _ h1b
  have kd0 := hdat.out _ _ h1b
  have hbo := hI.blkOk hm.2
  have hpo := hI.pinsOk (by omega)
  have hby : ByV (bvs D) := ⟨D, rfl, hDl⟩
  have hbl : bs.length ≤ 90000 := by have := hI.len; omega
  have HI := hid hI
  have Hbo := hid hbo
  have Hpo := hid hpo
  have Hnd := hid hnd
  have Hm := hid hm
  clear h h1 h1b hD hI hbo hpo hnd hm
  go_enter Try.func19, Try.ntmps19
  go_upto_block 0 with (go_at_call 24; (with_reducible refine kd0.mono ?_); rintro e w3 ⟨v, rfl, h3⟩; obtain ⟨ba, bc, rfl, b1, b2⟩ := SlB.valn h3; obtain ⟨x0, x1, x2, x3⟩ := Hc.out _ _ (h3.pull 1 : SatL w3 (cl _ _ _ :: _)))
  clear e0 e1 e2 e3 kd0
  have H3 := hid h3
  obtain ⟨bV, hbV⟩ : ∃ bV : Value, bV = .slice ba D.length bc := ⟨_, rfl⟩
  clear h3
  go_cut [8, 9] from 19 to 110 (fun e f wx => ∃ (z : Int) (bs' : List Blk), e = .int .i64 z ∧ f = .int .i64 z ∧ BI most (i + 1) bs' ∧ SatL wx (SlB 5 (.slice ba D.length bc) D :: cl w.heap.size 44 #[.int .i64 kd, .int .i64 N, .int .i64 Sz, .int .u8 (B : Int)] :: CacheA pb most bs' :: RCacheA xb most bs' :: L))
  case first =>
    cases hb1 : (kd == 1)
    case true =>
      have hdb := HI.out.data N
      have hget := HI.out.get N
      have ka := get_A (k := N) (H3.out.pull 2 : SatL w3 (CacheA _ _ _ :: _)) Hbo.out
      unfold AGet at ka
      have kx := hid (fun (w' : World) (X : List HP) (h : SatL w' (RCacheA xb most bs :: X)) => rget_A (k := N) h Hbo.out)
      generalize bget bs N = R at *
      obtain ⟨DB, hDB, hDBl⟩ := hdb
      rw [hDB] at ka kx
      obtain ⟨sb, hsb⟩ : ∃ sb : ByteArray, sb = ⟨DB.toArray⟩ := ⟨_, rfl⟩
      have hcv := hid (fun (w' : World) (v : Value) (X : List HP) (h : SatL w' (Sl 5 v (bvs DB) :: X)) => (by rw [hsb]; exact RdB.conv (SlB.rd h) : (convert 29 9 v).run Try.prog w' = .ok (.string sb) w'))
      clear hDB hsb
      go_wp2_with (first
        | (go_at_call 10; (with_reducible refine ka.mono ?_); rintro e4 w4 ⟨v, rfl, dv, rfl, h4⟩; obtain ⟨a4, c4, rfl, _, _⟩ := SlB.valn h4; obtain ⟨y0, y1, y2, y3⟩ := Hc.out _ _ (h4.pull 3 : SatL w4 (cl w.heap.size _ _ :: _)); have kq := kx.out _ _ (h4.pull 4))
        | (go_at_call 32; (with_reducible refine kq.mono ?_); rintro e5 w5 ⟨v, rfl, dx, rfl, h5⟩; obtain ⟨a5, c5, rfl, _, _⟩ := SlB.valn h5; have v1 := hcv.out _ _ _ h5; have v2 := hcv.out _ _ _ (h5.pull 2)))
      have h6 := SatL.tail (SatL.tail (SatL.tail (SatL.tail (h5.bring [0, 2, 4, 5, 3, 1]))))
      have Hg := hid (hget.mono (j := i + 1) (by omega))
      have H6 := hid h6
      clear h4 h5 h6 hget v1 v2
      go_wp2
      go_ret
      exact Ret.mk ⟨rfl, R.2, Hg.out, H6.out⟩
    case false =>
    cases hb2 : (kd == 2)
    case true =>
      have hnx := HI.out.fill Hm.out.1 N hby
      have ka := fill_A (k := N) (sat_drew.2 (H3.out.bring [2, 0, 1, 3]) : SatL w3.drew (CacheA pb most bs :: Sl 5 _ (bvs D) :: _)) Hbo.out (by have := Hm.out; omega) (bvs_one D) (by rw [bvs_len]; omega)
      have kx := hid (fun (w' : World) (v : Value) (X : List HP) (h : SatL w' (RCacheA xb most bs :: Sl 5 v (bvs D) :: X)) => rfill_A (k := N) h hbl (by have := Hm.out; omega) (bvs_one D) (by rw [bvs_len]; omega))
      generalize bfill most bs N (bvs D) = R at *
      have S0 := Hc.out _ _ (sat_drew.2 (H3.out.pull 1) : SatL w3.drew (cl w.heap.size _ _ :: _))
      go_upto_region 9 with fail
      refine GoE.start (fun w' => w'.cell? ⟨w.heap.size, 0, none⟩ = some (.int .i64 kd) ∧ w'.cell? ⟨w.heap.size, 1, none⟩ = some (.int .i64 N) ∧ w'.cell? ⟨w.heap.size, 2, none⟩ = some (.int .i64 Sz) ∧ w'.cell? ⟨w.heap.size, 3, none⟩ = some (.int .u8 (B : Int))) 12 13 rfl (by kernel_rfl) ?_
      refine GoE.take (i := 0) (v := ?_) rfl (by decide) (by kernel_rfl) (by kernel_rfl) (by kernel_rfl) (by kernel_rfl) (fun _ _ _ h => h) (by rfl) ?_ (by assumption) ?_
      rotate_left
      · intro w hSw; (try dsimp only at hSw); go_simp; try (with_reducible rfl)
      try simp only [Act.put, List.setIfInBounds_toArray, List.set_cons_zero, List.set_cons_succ]
      refine GoE.take (i := 1) (v := ?_) rfl (by decide) (by kernel_rfl) (by kernel_rfl) (by kernel_rfl) (by kernel_rfl) (fun _ _ _ h => h) (by rfl) ?_ (by assumption) ?_
      rotate_left
      · intro w hSw; (try dsimp only at hSw); go_simp; try (with_reducible rfl)
      try simp only [Act.put, List.setIfInBounds_toArray, List.set_cons_zero, List.set_cons_succ]
      refine GoE.take (i := 2) (v := ?_) rfl (by decide) (by kernel_rfl) (by kernel_rfl) (by kernel_rfl) (by kernel_rfl) (fun _ _ _ h => h) (by rfl) ?_ (by assumption) ?_
      rotate_left
      · intro w hSw; (try dsimp only at hSw); go_simp; try (with_reducible rfl)
      try simp only [Act.put, List.setIfInBounds_toArray, List.set_cons_zero, List.set_cons_succ]
      refine GoE.take (i := 3) (v := ?_) rfl (by decide) (by kernel_rfl) (by kernel_rfl) (by kernel_rfl) (by kernel_rfl) (fun _ _ _ h => h) (by rfl) ?_ (by assumption) ?_
      rotate_left
      · intro w hSw; (try dsimp only at hSw); go_simp; try (with_reducible rfl)
      try simp only [Act.put, List.setIfInBounds_toArray, List.set_cons_zero, List.set_cons_succ]
      refine GoE.take (i := 5) (v := ?_) rfl (by decide) (by kernel_rfl) (by kernel_rfl) (by kernel_rfl) (by kernel_rfl) (fun _ _ _ h => h) (by rfl) ?_ (by assumption) ?_
      rotate_left
      · intro w hSw; (try dsimp only at hSw); go_simp; try (with_reducible rfl)
      try simp only [Act.put, List.setIfInBounds_toArray, List.set_cons_zero, List.set_cons_succ]
      refine GoE.take (i := 6) (v := ?_) rfl (by decide) (by kernel_rfl) (by kernel_rfl) (by kernel_rfl) (by kernel_rfl) (fun _ _ _ h => h) (by rfl) ?_ (by assumption) ?_
      rotate_left
      · intro w hSw; (try dsimp only at hSw); go_simp; try (with_reducible rfl)
      try simp only [Act.put, List.setIfInBounds_toArray, List.set_cons_zero, List.set_cons_succ]
      refine GoE.take (i := 7) (v := ?_) rfl (by decide) (by kernel_rfl) (by kernel_rfl) (by kernel_rfl) (by kernel_rfl) (fun _ _ _ h => h) (by rfl) ?_ (by assumption) ?_
      rotate_left
      · intro w hSw; (try dsimp only at hSw); go_simp; try (with_reducible rfl)
      try simp only [Act.put, List.setIfInBounds_toArray, List.set_cons_zero, List.set_cons_succ]
      refine GoE.take (i := 8) (v := ?_) rfl (by decide) (by kernel_rfl) (by kernel_rfl) (by kernel_rfl) (by kernel_rfl) (fun _ _ _ h => h) (by rfl) ?_ (by assumption) ?_
      rotate_left
      · intro w hSw; (try dsimp only at hSw); go_simp; try (with_reducible rfl)
      try simp only [Act.put, List.setIfInBounds_toArray, List.set_cons_zero, List.set_cons_succ]
      refine GoE.one (i := 4) rfl (by kernel_rfl) (fun K hK => ?_)
      go_simp
      go_at_call 11
      (with_reducible refine (ka).mono ?_)
      rintro e4 w4 ⟨v4, rfl, rfl, h4⟩; have S4 := Hc.out _ _ (h4.pull 2 : SatL _ (cl w.heap.size _ _ :: _)); have kd1 := hdat.out _ _ h4
      go_wp2_with fail
      refine hK.out _ _ (fun _ => S4) ?_
      clear hK K
      try simp only [Act.put, List.setIfInBounds_toArray, List.set_cons_zero, List.set_cons_succ]
      refine GoE.one (i := 9) rfl (by kernel_rfl) (fun K hK => ?_)
      go_simp
      go_at_call 24
      (with_reducible refine (kd1).mono ?_)
      rintro e5 w5 ⟨v5, rfl, h5⟩; have S5 := Hc.out _ _ (h5.pull 3 : SatL _ (cl w.heap.size _ _ :: _)); have kx1 := kx.out _ _ _ (h5.bring [4, 0, 1, 2, 3])
      go_wp2_with fail
      refine hK.out _ _ (fun _ => S5) ?_
      clear hK K
      try simp only [Act.put, List.setIfInBounds_toArray, List.set_cons_zero, List.set_cons_succ]
      refine GoE.one (i := 10) rfl (by kernel_rfl) (fun K hK => ?_)
      go_simp
      go_at_call 33
      (with_reducible refine (kx1).mono ?_)
      rintro e6 w6 ⟨v6, rfl, rfl, h6⟩; have S6 := Hc.out _ _ (h6.pull 4 : SatL _ (cl w.heap.size _ _ :: _))
      go_wp2_with fail
      refine hK.out _ _ (fun _ => S6) ?_
      clear hK K
      try simp only [Act.put, List.setIfInBounds_toArray, List.set_cons_zero, List.set_cons_succ]
      refine GoE.take (i := 11) (v := ?_) rfl (by decide) (by kernel_rfl) (by kernel_rfl) (by kernel_rfl) (by kernel_rfl) (fun _ _ _ h => h) (by rfl) ?_ (by assumption) ?_
      rotate_left
      · intro w hSw; (try dsimp only at hSw); go_simp; try (with_reducible rfl)
      try simp only [Act.put, List.setIfInBounds_toArray, List.set_cons_zero, List.set_cons_succ]
      refine GoE.one (i := 12) rfl (by kernel_rfl) (fun K hK => ?_)
      go_simp
      refine hK.out _ _ (fun h => absurd rfl h) ?_
      clear hK K
      try simp only [Act.put, List.setIfInBounds_toArray, List.set_cons_zero, List.set_cons_succ]
      refine GoE.done (by kernel_rfl) ?_
      have h7 := SatL.tail (h6.bring [1, 3, 4, 2, 0])
      have H7 := hid h7
      have Hn := hid (hnx.mono (j := i + 1) (by omega))
      clear h4 h5 h6 h7 S0 S4 S5 S6 hnx kd1 kx1
      go_wp2_with fail
      go_meet
      exact ⟨R.1, R.2, rfl, rfl, Hn.out, H7.out⟩
    case false =>
    cases hb3 : (kd == 3)
    case true =>
      have hnx := HI.out.put Hm.out.1 N hby
      have ka := put_A (k := N) (sat_drew.2 (H3.out.bring [2, 0, 1, 3]) : SatL w3.drew (CacheA pb most bs :: Sl 5 _ (bvs D) :: _)) Hbo.out (by have := Hm.out; omega) (bvs_one D) (by rw [bvs_len]; omega)
      have kx := hid (fun (w' : World) (v : Value) (X : List HP) (h : SatL w' (RCacheA xb most bs :: Sl 5 v (bvs D) :: X)) => rput_A (k := N) h hbl (by have := Hm.out; omega) (bvs_one D) (by rw [bvs_len]; omega))
      generalize bput most bs N (bvs D) = R at *
      have S0 := Hc.out _ _ (sat_drew.2 (H3.out.pull 1) : SatL w3.drew (cl w.heap.size _ _ :: _))
      go_upto_region 11 with fail
      refine GoE.start (fun w' => w'.cell? ⟨w.heap.size, 0, none⟩ = some (.int .i64 kd) ∧ w'.cell? ⟨w.heap.size, 1, none⟩ = some (.int .i64 N) ∧ w'.cell? ⟨w.heap.size, 2, none⟩ = some (.int .i64 Sz) ∧ w'.cell? ⟨w.heap.size, 3, none⟩ = some (.int .u8 (B : Int))) 12 13 rfl (by kernel_rfl) ?_
      refine GoE.take (i := 0) (v := ?_) rfl (by decide) (by kernel_rfl) (by kernel_rfl) (by kernel_rfl) (by kernel_rfl) (fun _ _ _ h => h) (by rfl) ?_ (by assumption) ?_
      rotate_left
      · intro w hSw; (try dsimp only at hSw); go_simp; try (with_reducible rfl)
      try simp only [Act.put, List.setIfInBounds_toArray, List.set_cons_zero, List.set_cons_succ]
      refine GoE.take (i := 1) (v := ?_) rfl (by decide) (by kernel_rfl) (by kernel_rfl) (by kernel_rfl) (by kernel_rfl) (fun _ _ _ h => h) (by rfl) ?_ (by assumption) ?_
      rotate_left
      · intro w hSw; (try dsimp only at hSw); go_simp; try (with_reducible rfl)
      try simp only [Act.put, List.setIfInBounds_toArray, List.set_cons_zero, List.set_cons_succ]
      refine GoE.take (i := 2) (v := ?_) rfl (by decide) (by kernel_rfl) (by kernel_rfl) (by kernel_rfl) (by kernel_rfl) (fun _ _ _ h => h) (by rfl) ?_ (by assumption) ?_
      rotate_left
      · intro w hSw; (try dsimp only at hSw); go_simp; try (with_reducible rfl)
      try simp only [Act.put, List.setIfInBounds_toArray, List.set_cons_zero, List.set_cons_succ]
      refine GoE.take (i := 3) (v := ?_) rfl (by decide) (by kernel_rfl) (by kernel_rfl) (by kernel_rfl) (by kernel_rfl) (fun _ _ _ h => h) (by rfl) ?_ (by assumption) ?_
      rotate_left
      · intro w hSw; (try dsimp only at hSw); go_simp; try (with_reducible rfl)
      try simp only [Act.put, List.setIfInBounds_toArray, List.set_cons_zero, List.set_cons_succ]
      refine GoE.take (i := 5) (v := ?_) rfl (by decide) (by kernel_rfl) (by kernel_rfl) (by kernel_rfl) (by kernel_rfl) (fun _ _ _ h => h) (by rfl) ?_ (by assumption) ?_
      rotate_left
      · intro w hSw; (try dsimp only at hSw); go_simp; try (with_reducible rfl)
      try simp only [Act.put, List.setIfInBounds_toArray, List.set_cons_zero, List.set_cons_succ]
      refine GoE.take (i := 6) (v := ?_) rfl (by decide) (by kernel_rfl) (by kernel_rfl) (by kernel_rfl) (by kernel_rfl) (fun _ _ _ h => h) (by rfl) ?_ (by assumption) ?_
      rotate_left
      · intro w hSw; (try dsimp only at hSw); go_simp; try (with_reducible rfl)
      try simp only [Act.put, List.setIfInBounds_toArray, List.set_cons_zero, List.set_cons_succ]
      refine GoE.take (i := 7) (v := ?_) rfl (by decide) (by kernel_rfl) (by kernel_rfl) (by kernel_rfl) (by kernel_rfl) (fun _ _ _ h => h) (by rfl) ?_ (by assumption) ?_
      rotate_left
      · intro w hSw; (try dsimp only at hSw); go_simp; try (with_reducible rfl)
      try simp only [Act.put, List.setIfInBounds_toArray, List.set_cons_zero, List.set_cons_succ]
      refine GoE.take (i := 8) (v := ?_) rfl (by decide) (by kernel_rfl) (by kernel_rfl) (by kernel_rfl) (by kernel_rfl) (fun _ _ _ h => h) (by rfl) ?_ (by assumption) ?_
      rotate_left
      · intro w hSw; (try dsimp only at hSw); go_simp; try (with_reducible rfl)
      try simp only [Act.put, List.setIfInBounds_toArray, List.set_cons_zero, List.set_cons_succ]
      refine GoE.one (i := 4) rfl (by kernel_rfl) (fun K hK => ?_)
      go_simp
      go_at_call 14
      (with_reducible refine (ka).mono ?_)
      rintro e4 w4 ⟨v4, rfl, rfl, h4⟩; have S4 := Hc.out _ _ (h4.pull 2 : SatL _ (cl w.heap.size _ _ :: _)); have kd1 := hdat.out _ _ h4
      go_wp2_with fail
      refine hK.out _ _ (fun _ => S4) ?_
      clear hK K
      try simp only [Act.put, List.setIfInBounds_toArray, List.set_cons_zero, List.set_cons_succ]
      refine GoE.one (i := 9) rfl (by kernel_rfl) (fun K hK => ?_)
      go_simp
      go_at_call 24
      (with_reducible refine (kd1).mono ?_)
      rintro e5 w5 ⟨v5, rfl, h5⟩; have S5 := Hc.out _ _ (h5.pull 3 : SatL _ (cl w.heap.size _ _ :: _)); have kx1 := kx.out _ _ _ (h5.bring [4, 0, 1, 2, 3])
      go_wp2_with fail
      refine hK.out _ _ (fun _ => S5) ?_
      clear hK K
      try simp only [Act.put, List.setIfInBounds_toArray, List.set_cons_zero, List.set_cons_succ]
      refine GoE.one (i := 10) rfl (by kernel_rfl) (fun K hK => ?_)
      go_simp
      go_at_call 34
      (with_reducible refine (kx1).mono ?_)
      rintro e6 w6 ⟨v6, rfl, rfl, h6⟩; have S6 := Hc.out _ _ (h6.pull 4 : SatL _ (cl w.heap.size _ _ :: _))
      go_wp2_with fail
      refine hK.out _ _ (fun _ => S6) ?_
      clear hK K
      try simp only [Act.put, List.setIfInBounds_toArray, List.set_cons_zero, List.set_cons_succ]
      refine GoE.take (i := 11) (v := ?_) rfl (by decide) (by kernel_rfl) (by kernel_rfl) (by kernel_rfl) (by kernel_rfl) (fun _ _ _ h => h) (by rfl) ?_ (by assumption) ?_
      rotate_left
      · intro w hSw; (try dsimp only at hSw); go_simp; try (with_reducible rfl)
      try simp only [Act.put, List.setIfInBounds_toArray, List.set_cons_zero, List.set_cons_succ]
      refine GoE.one (i := 12) rfl (by kernel_rfl) (fun K hK => ?_)
      go_simp
      refine hK.out _ _ (fun h => absurd rfl h) ?_
      clear hK K
      try simp only [Act.put, List.setIfInBounds_toArray, List.set_cons_zero, List.set_cons_succ]
      refine GoE.done (by kernel_rfl) ?_
      have h7 := SatL.tail (h6.bring [1, 3, 4, 2, 0])
      have H7 := hid h7
      have Hn := hid (hnx.mono (j := i + 1) (by omega))
      clear h4 h5 h6 h7 S0 S4 S5 S6 hnx kd1 kx1
      go_wp2_with fail
      go_meet
      exact ⟨R.1, R.2, rfl, rfl, Hn.out, H7.out⟩
    case false =>
    cases hb4 : (kd == 4)
    case true =>
      have hnx := HI.out.pin N
      have ka := pin_A (k := N) (sat_drew.2 (H3.out.bring [2, 0, 1, 3]) : SatL w3.drew (CacheA pb most bs :: _)) Hpo.out
      have kx := hid (fun (w' : World) (X : List HP) (h : SatL w' (RCacheA xb most bs :: X)) => rpin_A (k := N) h hbl Hpo.out)
      generalize bpin bs N = R at *
      have S0 := Hc.out _ _ (sat_drew.2 (H3.out.pull 1) : SatL w3.drew (cl w.heap.size _ _ :: _))
      go_upto_region 13 with fail
      refine GoE.start (fun w' => w'.cell? ⟨w.heap.size, 0, none⟩ = some (.int .i64 kd) ∧ w'.cell? ⟨w.heap.size, 1, none⟩ = some (.int .i64 N) ∧ w'.cell? ⟨w.heap.size, 2, none⟩ = some (.int .i64 Sz) ∧ w'.cell? ⟨w.heap.size, 3, none⟩ = some (.int .u8 (B : Int))) 9 10 rfl (by kernel_rfl) ?_
      refine GoE.take (i := 0) (v := ?_) rfl (by decide) (by kernel_rfl) (by kernel_rfl) (by kernel_rfl) (by kernel_rfl) (fun _ _ _ h => h) (by rfl) ?_ (by assumption) ?_
      rotate_left
      · intro w hSw; (try dsimp only at hSw); go_simp; try (with_reducible rfl)
      try simp only [Act.put, List.setIfInBounds_toArray, List.set_cons_zero, List.set_cons_succ]
      refine GoE.take (i := 1) (v := ?_) rfl (by decide) (by kernel_rfl) (by kernel_rfl) (by kernel_rfl) (by kernel_rfl) (fun _ _ _ h => h) (by rfl) ?_ (by assumption) ?_
      rotate_left
      · intro w hSw; (try dsimp only at hSw); go_simp; try (with_reducible rfl)
      try simp only [Act.put, List.setIfInBounds_toArray, List.set_cons_zero, List.set_cons_succ]
      refine GoE.take (i := 2) (v := ?_) rfl (by decide) (by kernel_rfl) (by kernel_rfl) (by kernel_rfl) (by kernel_rfl) (fun _ _ _ h => h) (by rfl) ?_ (by assumption) ?_
      rotate_left
      · intro w hSw; (try dsimp only at hSw); go_simp; try (with_reducible rfl)
      try simp only [Act.put, List.setIfInBounds_toArray, List.set_cons_zero, List.set_cons_succ]
      refine GoE.take (i := 4) (v := ?_) rfl (by decide) (by kernel_rfl) (by kernel_rfl) (by kernel_rfl) (by kernel_rfl) (fun _ _ _ h => h) (by rfl) ?_ (by assumption) ?_
      rotate_left
      · intro w hSw; (try dsimp only at hSw); go_simp; try (with_reducible rfl)
      try simp only [Act.put, List.setIfInBounds_toArray, List.set_cons_zero, List.set_cons_succ]
      refine GoE.take (i := 5) (v := ?_) rfl (by decide) (by kernel_rfl) (by kernel_rfl) (by kernel_rfl) (by kernel_rfl) (fun _ _ _ h => h) (by rfl) ?_ (by assumption) ?_
      rotate_left
      · intro w hSw; (try dsimp only at hSw); go_simp; try (with_reducible rfl)
      try simp only [Act.put, List.setIfInBounds_toArray, List.set_cons_zero, List.set_cons_succ]
      refine GoE.take (i := 6) (v := ?_) rfl (by decide) (by kernel_rfl) (by kernel_rfl) (by kernel_rfl) (by kernel_rfl) (fun _ _ _ h => h) (by rfl) ?_ (by assumption) ?_
      rotate_left
      · intro w hSw; (try dsimp only at hSw); go_simp; try (with_reducible rfl)
      try simp only [Act.put, List.setIfInBounds_toArray, List.set_cons_zero, List.set_cons_succ]
      refine GoE.one (i := 3) rfl (by kernel_rfl) (fun K hK => ?_)
      go_simp
      go_at_call 13
      (with_reducible refine (ka).mono ?_)
      rintro e4 w4 ⟨v4, rfl, rfl, h4⟩; have S4 := Hc.out _ _ (h4.pull 2 : SatL _ (cl w.heap.size _ _ :: _)); have kx1 := kx.out _ _ (h4.bring [3, 0, 1, 2])
      go_wp2_with fail
      refine hK.out _ _ (fun _ => S4) ?_
      clear hK K
      try simp only [Act.put, List.setIfInBounds_toArray, List.set_cons_zero, List.set_cons_succ]
      refine GoE.one (i := 7) rfl (by kernel_rfl) (fun K hK => ?_)
      go_simp
      go_at_call 35
      (with_reducible refine (kx1).mono ?_)
      rintro e6 w6 ⟨v6, rfl, rfl, h6⟩; have S6 := Hc.out _ _ (h6.pull 3 : SatL _ (cl w.heap.size _ _ :: _))
      go_wp2_with fail
      refine hK.out _ _ (fun _ => S6) ?_
      clear hK K
      try simp only [Act.put, List.setIfInBounds_toArray, List.set_cons_zero, List.set_cons_succ]
      refine GoE.take (i := 8) (v := ?_) rfl (by decide) (by kernel_rfl) (by kernel_rfl) (by kernel_rfl) (by kernel_rfl) (fun _ _ _ h => h) (by rfl) ?_ (by assumption) ?_
      rotate_left
      · intro w hSw; (try dsimp only at hSw); go_simp; try (with_reducible rfl)
      try simp only [Act.put, List.setIfInBounds_toArray, List.set_cons_zero, List.set_cons_succ]
      refine GoE.one (i := 9) rfl (by kernel_rfl) (fun K hK => ?_)
      go_simp
      refine hK.out _ _ (fun h => absurd rfl h) ?_
      clear hK K
      try simp only [Act.put, List.setIfInBounds_toArray, List.set_cons_zero, List.set_cons_succ]
      refine GoE.done (by kernel_rfl) ?_
      have h7 := h6.bring [2, 3, 1, 0]
      have H7 := hid h7
      have Hn := hid hnx
      clear h4 h6 h7 S0 S4 S6 hnx kx1
      go_wp2_with fail
      go_meet
      exact ⟨R.1, R.2, rfl, rfl, Hn.out, H7.out⟩
    case false =>
    cases hb5 : (kd == 5)
    case true =>
      have hnx := (HI.out.unpin Hnd.out N).mono (j := i + 1) (by omega)
      have ka := unpin_A (k := N) (sat_drew.2 (H3.out.bring [2, 0, 1, 3]) : SatL w3.drew (CacheA pb most bs :: _)) Hpo.out
      have kx := hid (fun (w' : World) (X : List HP) (h : SatL w' (RCacheA xb most bs :: X)) => runpin_A (k := N) h hbl Hpo.out)
      generalize bunpin bs N = R at *
      have S0 := Hc.out _ _ (sat_drew.2 (H3.out.pull 1) : SatL w3.drew (cl w.heap.size _ _ :: _))
      go_upto_region 15 with fail
      refine GoE.start (fun w' => w'.cell? ⟨w.heap.size, 0, none⟩ = some (.int .i64 kd) ∧ w'.cell? ⟨w.heap.size, 1, none⟩ = some (.int .i64 N) ∧ w'.cell? ⟨w.heap.size, 2, none⟩ = some (.int .i64 Sz) ∧ w'.cell? ⟨w.heap.size, 3, none⟩ = some (.int .u8 (B : Int))) 9 10 rfl (by kernel_rfl) ?_
      refine GoE.take (i := 0) (v := ?_) rfl (by decide) (by kernel_rfl) (by kernel_rfl) (by kernel_rfl) (by kernel_rfl) (fun _ _ _ h => h) (by rfl) ?_ (by assumption) ?_
      rotate_left
      · intro w hSw; (try dsimp only at hSw); go_simp; try (with_reducible rfl)
      try simp only [Act.put, List.setIfInBounds_toArray, List.set_cons_zero, List.set_cons_succ]
      refine GoE.take (i := 1) (v := ?_) rfl (by decide) (by kernel_rfl) (by kernel_rfl) (by kernel_rfl) (by kernel_rfl) (fun _ _ _ h => h) (by rfl) ?_ (by assumption) ?_
      rotate_left
      · intro w hSw; (try dsimp only at hSw); go_simp; try (with_reducible rfl)
      try simp only [Act.put, List.setIfInBounds_toArray, List.set_cons_zero, List.set_cons_succ]
      refine GoE.take (i := 2) (v := ?_) rfl (by decide) (by kernel_rfl) (by kernel_rfl) (by kernel_rfl) (by kernel_rfl) (fun _ _ _ h => h) (by rfl) ?_ (by assumption) ?_
      rotate_left
      · intro w hSw; (try dsimp only at hSw); go_simp; try (with_reducible rfl)
      try simp only [Act.put, List.setIfInBounds_toArray, List.set_cons_zero, List.set_cons_succ]
      refine GoE.take (i := 4) (v := ?_) rfl (by decide) (by kernel_rfl) (by kernel_rfl) (by kernel_rfl) (by kernel_rfl) (fun _ _ _ h => h) (by rfl) ?_ (by assumption) ?_
      rotate_left
      · intro w hSw; (try dsimp only at hSw); go_simp; try (with_reducible rfl)
      try simp only [Act.put, List.setIfInBounds_toArray, List.set_cons_zero, List.set_cons_succ]
      refine GoE.take (i := 5) (v := ?_) rfl (by decide) (by kernel_rfl) (by kernel_rfl) (by kernel_rfl) (by kernel_rfl) (fun _ _ _ h => h) (by rfl) ?_ (by assumption) ?_
      rotate_left
      · intro w hSw; (try dsimp only at hSw); go_simp; try (with_reducible rfl)
      try simp only [Act.put, List.setIfInBounds_toArray, List.set_cons_zero, List.set_cons_succ]
      refine GoE.take (i := 6) (v := ?_) rfl (by decide) (by kernel_rfl) (by kernel_rfl) (by kernel_rfl) (by kernel_rfl) (fun _ _ _ h => h) (by rfl) ?_ (by assumption) ?_
      rotate_left
      · intro w hSw; (try dsimp only at hSw); go_simp; try (with_reducible rfl)
      try simp only [Act.put, List.setIfInBounds_toArray, List.set_cons_zero, List.set_cons_succ]
      refine GoE.one (i := 3) rfl (by kernel_rfl) (fun K hK => ?_)
      go_simp
      go_at_call 16
      (with_reducible refine (ka).mono ?_)
      rintro e4 w4 ⟨v4, rfl, rfl, h4⟩; have S4 := Hc.out _ _ (h4.pull 2 : SatL _ (cl w.heap.size _ _ :: _)); have kx1 := kx.out _ _ (h4.bring [3, 0, 1, 2])
      go_wp2_with fail
      refine hK.out _ _ (fun _ => S4) ?_
      clear hK K
      try simp only [Act.put, List.setIfInBounds_toArray, List.set_cons_zero, List.set_cons_succ]
      refine GoE.one (i := 7) rfl (by kernel_rfl) (fun K hK => ?_)
      go_simp
      go_at_call 36
      (with_reducible refine (kx1).mono ?_)
      rintro e6 w6 ⟨v6, rfl, rfl, h6⟩; have S6 := Hc.out _ _ (h6.pull 3 : SatL _ (cl w.heap.size _ _ :: _))
      go_wp2_with fail
      refine hK.out _ _ (fun _ => S6) ?_
      clear hK K
      try simp only [Act.put, List.setIfInBounds_toArray, List.set_cons_zero, List.set_cons_succ]
      refine GoE.take (i := 8) (v := ?_) rfl (by decide) (by kernel_rfl) (by kernel_rfl) (by kernel_rfl) (by kernel_rfl) (fun _ _ _ h => h) (by rfl) ?_ (by assumption) ?_
      rotate_left
      · intro w hSw; (try dsimp only at hSw); go_simp; try (with_reducible rfl)
      try simp only [Act.put, List.setIfInBounds_toArray, List.set_cons_zero, List.set_cons_succ]
      refine GoE.one (i := 9) rfl (by kernel_rfl) (fun K hK => ?_)
      go_simp
      refine hK.out _ _ (fun h => absurd rfl h) ?_
      clear hK K
      try simp only [Act.put, List.setIfInBounds_toArray, List.set_cons_zero, List.set_cons_succ]
      refine GoE.done (by kernel_rfl) ?_
      have h7 := h6.bring [2, 3, 1, 0]
      have H7 := hid h7
      have Hn := hid hnx
      clear h4 h6 h7 S0 S4 S6 hnx kx1
      go_wp2_with fail
      go_meet
      exact ⟨R.1, R.2, rfl, rfl, Hn.out, H7.out⟩
    case false =>
    cases hb6 : (kd == 6)
    case true =>
      have hnx := (HI.out.clean N).mono (j := i + 1) (by omega)
      have ka := clean_A (k := N) (sat_drew.2 (H3.out.bring [2, 0, 1, 3]) : SatL w3.drew (CacheA pb most bs :: _))
      have kx := hid (fun (w' : World) (X : List HP) (h : SatL w' (RCacheA xb most bs :: X)) => rclean_A (k := N) h hbl)
      generalize bclean bs N = R at *
      have S0 := Hc.out _ _ (sat_drew.2 (H3.out.pull 1) : SatL w3.drew (cl w.heap.size _ _ :: _))
      go_upto_region 17 with fail
      refine GoE.start (fun w' => w'.cell? ⟨w.heap.size, 0, none⟩ = some (.int .i64 kd) ∧ w'.cell? ⟨w.heap.size, 1, none⟩ = some (.int .i64 N) ∧ w'.cell? ⟨w.heap.size, 2, none⟩ = some (.int .i64 Sz) ∧ w'.cell? ⟨w.heap.size, 3, none⟩ = some (.int .u8 (B : Int))) 9 10 rfl (by kernel_rfl) ?_
      refine GoE.take (i := 0) (v := ?_) rfl (by decide) (by kernel_rfl) (by kernel_rfl) (by kernel_rfl) (by kernel_rfl) (fun _ _ _ h => h) (by rfl) ?_ (by assumption) ?_
      rotate_left
      · intro w hSw; (try dsimp only at hSw); go_simp; try (with_reducible rfl)
      try simp only [Act.put, List.setIfInBounds_toArray, List.set_cons_zero, List.set_cons_succ]
      refine GoE.take (i := 1) (v := ?_) rfl (by decide) (by kernel_rfl) (by kernel_rfl) (by kernel_rfl) (by kernel_rfl) (fun _ _ _ h => h) (by rfl) ?_ (by assumption) ?_
      rotate_left
      · intro w hSw; (try dsimp only at hSw); go_simp; try (with_reducible rfl)
      try simp only [Act.put, List.setIfInBounds_toArray, List.set_cons_zero, List.set_cons_succ]
      refine GoE.take (i := 2) (v := ?_) rfl (by decide) (by kernel_rfl) (by kernel_rfl) (by kernel_rfl) (by kernel_rfl) (fun _ _ _ h => h) (by rfl) ?_ (by assumption) ?_
      rotate_left
      · intro w hSw; (try dsimp only at hSw); go_simp; try (with_reducible rfl)
      try simp only [Act.put, List.setIfInBounds_toArray, List.set_cons_zero, List.set_cons_succ]
      refine GoE.take (i := 4) (v := ?_) rfl (by decide) (by kernel_rfl) (by kernel_rfl) (by kernel_rfl) (by kernel_rfl) (fun _ _ _ h => h) (by rfl) ?_ (by assumption) ?_
      rotate_left
      · intro w hSw; (try dsimp only at hSw); go_simp; try (with_reducible rfl)
      try simp only [Act.put, List.setIfInBounds_toArray, List.set_cons_zero, List.set_cons_succ]
      refine GoE.take (i := 5) (v := ?_) rfl (by decide) (by kernel_rfl) (by kernel_rfl) (by kernel_rfl) (by kernel_rfl) (fun _ _ _ h => h) (by rfl) ?_ (by assumption) ?_
      rotate_left
      · intro w hSw; (try dsimp only at hSw); go_simp; try (with_reducible rfl)
      try simp only [Act.put, List.setIfInBounds_toArray, List.set_cons_zero, List.set_cons_succ]
      refine GoE.take (i := 6) (v := ?_) rfl (by decide) (by kernel_rfl) (by kernel_rfl) (by kernel_rfl) (by kernel_rfl) (fun _ _ _ h => h) (by rfl) ?_ (by assumption) ?_
      rotate_left
      · intro w hSw; (try dsimp only at hSw); go_simp; try (with_reducible rfl)
      try simp only [Act.put, List.setIfInBounds_toArray, List.set_cons_zero, List.set_cons_succ]
      refine GoE.one (i := 3) rfl (by kernel_rfl) (fun K hK => ?_)
      go_simp
      go_at_call 17
      (with_reducible refine (ka).mono ?_)
      rintro e4 w4 ⟨v4, rfl, rfl, h4⟩; have S4 := Hc.out _ _ (h4.pull 2 : SatL _ (cl w.heap.size _ _ :: _)); have kx1 := kx.out _ _ (h4.bring [3, 0, 1, 2])
      go_wp2_with fail
      refine hK.out _ _ (fun _ => S4) ?_
      clear hK K
      try simp only [Act.put, List.setIfInBounds_toArray, List.set_cons_zero, List.set_cons_succ]
      refine GoE.one (i := 7) rfl (by kernel_rfl) (fun K hK => ?_)
      go_simp
      go_at_call 37
      (with_reducible refine (kx1).mono ?_)
      rintro e6 w6 ⟨v6, rfl, rfl, h6⟩; have S6 := Hc.out _ _ (h6.pull 3 : SatL _ (cl w.heap.size _ _ :: _))
      go_wp2_with fail
      refine hK.out _ _ (fun _ => S6) ?_
      clear hK K
      try simp only [Act.put, List.setIfInBounds_toArray, List.set_cons_zero, List.set_cons_succ]
      refine GoE.take (i := 8) (v := ?_) rfl (by decide) (by kernel_rfl) (by kernel_rfl) (by kernel_rfl) (by kernel_rfl) (fun _ _ _ h => h) (by rfl) ?_ (by assumption) ?_
      rotate_left
      · intro w hSw; (try dsimp only at hSw); go_simp; try (with_reducible rfl)
      try simp only [Act.put, List.setIfInBounds_toArray, List.set_cons_zero, List.set_cons_succ]
      refine GoE.one (i := 9) rfl (by kernel_rfl) (fun K hK => ?_)
      go_simp
      refine hK.out _ _ (fun h => absurd rfl h) ?_
      clear hK K
      try simp only [Act.put, List.setIfInBounds_toArray, List.set_cons_zero, List.set_cons_succ]
      refine GoE.done (by kernel_rfl) ?_
      have h7 := h6.bring [2, 3, 1, 0]
      have H7 := hid h7
      have Hn := hid hnx
      clear h4 h6 h7 S0 S4 S6 hnx kx1
      go_wp2_with fail
      go_meet
      exact ⟨R.1, R.2, rfl, rfl, Hn.out, H7.out⟩
    case false =>
    cases hb7 : (kd == 7)
    case true =>
      have hnx := (HI.out.drop N).mono (j := i + 1) (by omega)
      have ka := drop_A (k := N) (sat_drew.2 (H3.out.bring [2, 0, 1, 3]) : SatL w3.drew (CacheA pb most bs :: _))
      have kx := hid (fun (w' : World) (X : List HP) (h : SatL w' (RCacheA xb most bs :: X)) => rdrop_A (k := N) h hbl Hpo.out)
      generalize bdrop bs N = R at *
      have S0 := Hc.out _ _ (sat_drew.2 (H3.out.pull 1) : SatL w3.drew (cl w.heap.size _ _ :: _))
      go_upto_region 19 with fail
      refine GoE.start (fun w' => w'.cell? ⟨w.heap.size, 0, none⟩ = some (.int .i64 kd) ∧ w'.cell? ⟨w.heap.size, 1, none⟩ = some (.int .i64 N) ∧ w'.cell? ⟨w.heap.size, 2, none⟩ = some (.int .i64 Sz) ∧ w'.cell? ⟨w.heap.size, 3, none⟩ = some (.int .u8 (B : Int))) 9 10 rfl (by kernel_rfl) ?_
      refine GoE.take (i := 0) (v := ?_) rfl (by decide) (by kernel_rfl) (by kernel_rfl) (by kernel_rfl) (by kernel_rfl) (fun _ _ _ h => h) (by rfl) ?_ (by assumption) ?_
      rotate_left
      · intro w hSw; (try dsimp only at hSw); go_simp; try (with_reducible rfl)
      try simp only [Act.put, List.setIfInBounds_toArray, List.set_cons_zero, List.set_cons_succ]
      refine GoE.take (i := 1) (v := ?_) rfl (by decide) (by kernel_rfl) (by kernel_rfl) (by kernel_rfl) (by kernel_rfl) (fun _ _ _ h => h) (by rfl) ?_ (by assumption) ?_
      rotate_left
      · intro w hSw; (try dsimp only at hSw); go_simp; try (with_reducible rfl)
      try simp only [Act.put, List.setIfInBounds_toArray, List.set_cons_zero, List.set_cons_succ]
      refine GoE.take (i := 2) (v := ?_) rfl (by decide) (by kernel_rfl) (by kernel_rfl) (by kernel_rfl) (by kernel_rfl) (fun _ _ _ h => h) (by rfl) ?_ (by assumption) ?_
      rotate_left
      · intro w hSw; (try dsimp only at hSw); go_simp; try (with_reducible rfl)
      try simp only [Act.put, List.setIfInBounds_toArray, List.set_cons_zero, List.set_cons_succ]
      refine GoE.take (i := 4) (v := ?_) rfl (by decide) (by kernel_rfl) (by kernel_rfl) (by kernel_rfl) (by kernel_rfl) (fun _ _ _ h => h) (by rfl) ?_ (by assumption) ?_
      rotate_left
      · intro w hSw; (try dsimp only at hSw); go_simp; try (with_reducible rfl)
      try simp only [Act.put, List.setIfInBounds_toArray, List.set_cons_zero, List.set_cons_succ]
      refine GoE.take (i := 5) (v := ?_) rfl (by decide) (by kernel_rfl) (by kernel_rfl) (by kernel_rfl) (by kernel_rfl) (fun _ _ _ h => h) (by rfl) ?_ (by assumption) ?_
      rotate_left
      · intro w hSw; (try dsimp only at hSw); go_simp; try (with_reducible rfl)
      try simp only [Act.put, List.setIfInBounds_toArray, List.set_cons_zero, List.set_cons_succ]
      refine GoE.take (i := 6) (v := ?_) rfl (by decide) (by kernel_rfl) (by kernel_rfl) (by kernel_rfl) (by kernel_rfl) (fun _ _ _ h => h) (by rfl) ?_ (by assumption) ?_
      rotate_left
      · intro w hSw; (try dsimp only at hSw); go_simp; try (with_reducible rfl)
      try simp only [Act.put, List.setIfInBounds_toArray, List.set_cons_zero, List.set_cons_succ]
      refine GoE.one (i := 3) rfl (by kernel_rfl) (fun K hK => ?_)
      go_simp
      go_at_call 15
      (with_reducible refine (ka).mono ?_)
      rintro e4 w4 ⟨v4, rfl, rfl, h4⟩; have S4 := Hc.out _ _ (h4.pull 2 : SatL _ (cl w.heap.size _ _ :: _)); have kx1 := kx.out _ _ (h4.bring [3, 0, 1, 2])
      go_wp2_with fail
      refine hK.out _ _ (fun _ => S4) ?_
      clear hK K
      try simp only [Act.put, List.setIfInBounds_toArray, List.set_cons_zero, List.set_cons_succ]
      refine GoE.one (i := 7) rfl (by kernel_rfl) (fun K hK => ?_)
      go_simp
      go_at_call 38
      (with_reducible refine (kx1).mono ?_)
      rintro e6 w6 ⟨v6, rfl, rfl, h6⟩; have S6 := Hc.out _ _ (h6.pull 3 : SatL _ (cl w.heap.size _ _ :: _))
      go_wp2_with fail
      refine hK.out _ _ (fun _ => S6) ?_
      clear hK K
      try simp only [Act.put, List.setIfInBounds_toArray, List.set_cons_zero, List.set_cons_succ]
      refine GoE.take (i := 8) (v := ?_) rfl (by decide) (by kernel_rfl) (by kernel_rfl) (by kernel_rfl) (by kernel_rfl) (fun _ _ _ h => h) (by rfl) ?_ (by assumption) ?_
      rotate_left
      · intro w hSw; (try dsimp only at hSw); go_simp; try (with_reducible rfl)
      try simp only [Act.put, List.setIfInBounds_toArray, List.set_cons_zero, List.set_cons_succ]
      refine GoE.one (i := 9) rfl (by kernel_rfl) (fun K hK => ?_)
      go_simp
      refine hK.out _ _ (fun h => absurd rfl h) ?_
      clear hK K
      try simp only [Act.put, List.setIfInBounds_toArray, List.set_cons_zero, List.set_cons_succ]
      refine GoE.done (by kernel_rfl) ?_
      have h7 := h6.bring [2, 3, 1, 0]
      have H7 := hid h7
      have Hn := hid hnx
      clear h4 h6 h7 S0 S4 S6 hnx kx1
      go_wp2_with fail
      go_meet
      exact ⟨R.1, R.2, rfl, rfl, Hn.out, H7.out⟩
    case false =>
    go_wp2_with fail
    go_meet
    exact ⟨0, bs, rfl, rfl, HI.out.mono (by omega), H3.out⟩
  case rest =>
  obtain ⟨z, bs', rfl, rfl, hI', h4⟩ := hcut
  have HI' := hid hI'
  clear hI' H3 HI Hbo Hpo Hnd hdat x0 x1 x2 x3
  go_wp2
  go_loopw [14] (fun x wr => ∃ (j : Nat) (E : List UInt8), j ≤ D.length ∧ x = .int .i64 j ∧ E.length = D.length ∧ SatL wr (SlB 5 (.slice ba D.length bc) E :: cl w.heap.size 44 #[.int .i64 kd, .int .i64 N, .int .i64 Sz, .int .u8 (B : Int)] :: CacheA pb most bs' :: RCacheA xb most bs' :: L)) (fun x _ => D.length - (intOf x).toNat)
  case atStart => exact ⟨0, D, by omega, rfl, rfl, h4⟩
  case round =>
    clear h4
    obtain ⟨j, E, hj, rfl, hE, hs⟩ := hrel
    by_cases hlt : j < D.length
    · have hjz : (j : Int) < D.length := by omega
      have hin : j < (bvs E).length := by rw [bvs_len, hE]; exact hlt
      obtain ⟨bb, bo, rfl⟩ := Sl.addr (hs : SatL wr (Sl _ _ _ :: _)) (by omega)
      have hA := Sl.set (hs : SatL wr (Sl _ _ _ :: _)) (i := j) hin (.int .u8 238)
      have fA := Sl.free (hs : SatL wr (Sl _ _ _ :: _)) (bo + j)
      obtain ⟨u, cu⟩ : ∃ u, wr.cell? ⟨bb, bo + j, none⟩ = some u := ⟨_, Sl.cell (hs : SatL wr (Sl _ _ _ :: _)) (List.getElem?_eq_getElem hin)⟩
      have e9 : (bvs E).set j (.int .u8 238) = bvs (E.set j 238) := by unfold bvs; rw [List.map_set]; rfl
      rw [e9] at hA
      have HA := hid hA
      have HE := hid (show (E.set j 238).length = D.length by rw [List.length_set]; exact hE)
      clear hs hA hin e9 hE
      go_wp2
      go_roundw
      case rel => exact ⟨j + 1, _, by omega, by go_num, HE.out, HA.out⟩
      case measure => simp [intOf]; omega
    · obtain rfl : j = D.length := by omega
      have H5 := hid (SatL.tail (SatL.tail hs))
      clear hs
      go_wp2
      go_ret
      exact Ret.mk ⟨rfl, bs', HI'.out, H5.out⟩
end
end Go.Proofs.Ytlmjjfgnpcghgaa
