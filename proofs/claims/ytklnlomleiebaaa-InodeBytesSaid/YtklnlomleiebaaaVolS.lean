/- A volume whose base lacks nothing: its two bitmaps as sets; the calls that take, give and count. -/
import Derived.Test.YtklnlomleiebaaaFree
import Derived.Test.YtklnlomleiebaaaFreshB
import Derived.Test.YtklnlomleiebaaaErrno
namespace Go.Proofs.Ytklnlomleiebaaa
set_option linter.unusedVariables false
set_option linter.unusedSimpArgs false
open Go.RowKit

theorem cells8 {w : World} {L : List HP} {b T : Nat} {x0 x1 x2 x3 x4 x5 x6 x7 : Value} (h : SatL w (cl b T #[x0, x1, x2, x3, x4, x5, x6, x7] :: L)) : w.cell? ⟨b, 0, none⟩ = some x0 ∧ w.cell? ⟨b, 1, none⟩ = some x1 ∧ w.cell? ⟨b, 2, none⟩ = some x2 ∧ w.cell? ⟨b, 3, none⟩ = some x3 ∧ w.cell? ⟨b, 4, none⟩ = some x4 ∧ w.cell? ⟨b, 5, none⟩ = some x5 ∧ w.cell? ⟨b, 6, none⟩ = some x6 ∧ w.cell? ⟨b, 7, none⟩ = some x7 :=
  ⟨h.cell (i := 0) rfl, h.cell (i := 1) rfl, h.cell (i := 2) rfl, h.cell (i := 3) rfl, h.cell (i := 4) rfl, h.cell (i := 5) rfl, h.cell (i := 6) rfl, h.cell (i := 7) rfl⟩
theorem mkRows_68 {b i s n : Nat} (hg : planGood b i) (he : planErr b i = 0) : (mkRows b i s n)[68]? = some (some (bitsN 512 (imP i))) := by
  obtain ⟨_, _, hd8, ht0, ht1⟩ := plan_nat hg he
  have hdt : tableN b ≤ dataN b i := by unfold dataN; omega
  have hb : ∀ p ∈ bmList b (dataN b i) (tableN b - 69), p.1.toNat ≠ 68 := fun p hp => by have := bmList_in hp; omega
  have e : mkfsL b i s n = [((0 : Int), encB b i)] ++ ((68 : Int), bitsN 512 (imP i)) :: (bmList b (dataN b i) (tableN b - 69) ++ [((tableN b : Int), tableB (dataN b i) s n), ((dataN b i : Int), dirB)]) := by
    unfold mkfsL
    generalize encB b i = E
    generalize bmList b (dataN b i) (tableN b - 69) = M
    generalize bitsN 512 (imP i) = I
    simp
  unfold mkRows rowsOf
  rw [e]
  clear e
  generalize bitsN 512 (imP i) = I
  generalize encB b i = E
  show (_ : List (Option (List UInt8)))[(68 : Int).toNat]? = _
  refine foldl_last [((0 : Int), E)] _ ((68 : Int), I) _ (by rw [List.length_replicate]; show 68 < b; omega) ?_
  generalize tableB (dataN b i) s n = TB
  generalize dirB = DB
  intro q hq
  show q.1.toNat ≠ 68
  rcases List.mem_append.1 hq with hq | hq
  · exact hb q hq
  · rcases List.mem_cons.1 hq with h | hq
    · rw [h]; show ((tableN b : Nat) : Int).toNat ≠ 68; omega
    · rcases List.mem_cons.1 hq with h | hq
      · rw [h]; show ((dataN b i : Nat) : Int).toNat ≠ 68; omega
      · cases hq
theorem viewAt_im {b i s n : Nat} (hg : planGood b i) (he : planErr b i = 0) : viewAt (mkRows b i s n) (fun _ => none) 68 = bitsN 512 (imP i) := by
  have h := mkRows_68 (s := s) (n := n) hg he
  generalize bitsN 512 (imP i) = I at *
  unfold viewAt
  rw [h]
  rfl

def volP (b i : Nat) (U V : Nat → Bool) (puts : Puts) : Prop :=
  Puts512 puts ∧ (∀ k, k < tableN b - 69 → viewAt (mkRows b i 0 0) puts (69 + k) = bitsN 512 (fun j => U (k * 4096 + j))) ∧ viewAt (mkRows b i 0 0) puts 68 = bitsN 512 V
/-- a volume of b blocks and i inodes: the blocks of U, the inodes of V are taken -/
def VolR (vb b i : Nat) (U V : Nat → Bool) : HP := ex fun q : Puts × Nat => sep [pur (volP b i U V q.1), ViewR vb q.2 i (tableN b) (dataN b i) (mkRows b i 0 0) q.1]
theorem volP.upB {b i u : Nat} {U U' V P : Nat → Bool} {puts : Puts} (h : volP b i U V puts) (hP : ∀ t, t < 4096 → P t = U' (u / 4096 * 4096 + t)) (hU : ∀ j, j / 4096 ≠ u / 4096 → U' j = U j) :
    volP b i U' V (upo puts ((69 + u / 4096 : Nat) : Int) (bitsN 512 P)) := by
  obtain ⟨h1, h2, h3⟩ := h
  refine ⟨h1.upo (bitsN_len _), fun k hk => ?_, ?_⟩
  · rw [viewAt_put]
    by_cases hu : k = u / 4096
    · subst hu
      rw [if_pos rfl]
      exact bitsN_congr fun t ht => hP t (by omega)
    · rw [if_neg (by omega), h2 k hk]
      exact bitsN_congr fun t ht => (hU _ (by omega)).symm
  · rw [viewAt_put, if_neg (by omega), h3]
theorem volP.upI {b i : Nat} {U V V' P : Nat → Bool} {puts : Puts} (h : volP b i U V puts) (hP : ∀ t, t < 4096 → P t = V' t) :
    volP b i U V' (upo puts ((68 : Nat) : Int) (bitsN 512 P)) := by
  obtain ⟨h1, h2, h3⟩ := h
  refine ⟨h1.upo (bitsN_len _), fun k hk => ?_, ?_⟩
  · rw [viewAt_put, if_neg (by omega), h2 k hk]
  · rw [viewAt_put, if_pos rfl]
    exact bitsN_congr fun t ht => hP t (by omega)
theorem VolR.nat {b i : Nat} (hg : planGood b i) (he : planErr b i = 0) : 69 ≤ tableN b ∧ tableN b ≤ dataN b i ∧ dataN b i + 8 ≤ b ∧ b ≤ (tableN b - 69) * 4096 ∧ b ≤ 65536 ∧ i ≤ 4096 := by
  obtain ⟨h1, h2, hd8, ht0, ht1⟩ := plan_nat hg he
  obtain ⟨g1, g2, g3, g4, g5⟩ := hg
  refine ⟨by omega, by unfold dataN; omega, by omega, by unfold tableN; omega, by omega, by omega⟩

section
variable {w : World} {L : List HP} {vb b i : Nat} {U V : Nat → Bool}
theorem sat_VolR : SatL w (VolR vb b i U V :: L) ↔ ∃ puts mb, volP b i U V puts ∧ SatL w (ViewR vb mb i (tableN b) (dataN b i) (mkRows b i 0 0) puts :: L) := by
  unfold VolR
  rw [sat_ex]
  constructor
  · rintro ⟨⟨puts, mb⟩, h⟩; obtain ⟨h1, h2⟩ := sat_pur.1 (sat_sep.1 h); exact ⟨puts, mb, h1, h2⟩
  · rintro ⟨puts, mb, h1, h2⟩; exact ⟨(puts, mb), sat_sep.2 (sat_pur.2 ⟨h1, h2⟩)⟩
theorem fresh_vol (hg : planGood b i) (he : planErr b i = 0) (h : SatL w L) :
    Calls Try.prog 8 #[.int .i64 b, .int .i64 i] w (Ret fun v w' => ∃ vb, v = .pointer (some ⟨vb, 0, none⟩) ∧ SatL w' (VolR vb b i (usedP b (dataN b i)) (imP i) :: L)) := by
  refine (fresh_ok hg he h).mono ?_
  rintro e w1 ⟨v, rfl, vb, mb, rfl, hs⟩
  exact ⟨_, rfl, vb, rfl, sat_VolR.2 ⟨_, _, ⟨(fun k d h => by cases h), fun k hk => viewAt_bm hg he k hk, viewAt_im hg he⟩, hs⟩⟩

theorem volTakeB {u : Nat} (hg : planGood b i) (he : planErr b i = 0) (h : SatL w (VolR vb b i U V :: L)) (hu : u < (tableN b - 69) * 4096) (hU : U u = false) (hmin : ∀ j, j < u → U j = true) :
    Calls Try.prog 33 #[.pointer (some ⟨vb, 0, none⟩)] w (Ret fun v w' => v = .tuple #[.int .i64 u, .nilIface] ∧ SatL w' (VolR vb b i (fun j => U j || j == u) V :: L)) := by
  obtain ⟨n1, n2, n3, n4, n5, n6⟩ := VolR.nat hg he
  obtain ⟨puts, mb, hP, hs⟩ := sat_VolR.1 h
  refine (takeBlock_ok hs n1 (by rw [mkRows_len]; omega) mkRows_512 hP.1 (by rw [mkRows_len]; omega) hP.2.1 hu hU hmin).mono ?_
  rintro e w1 ⟨v, rfl, rfl, hs1⟩
  refine ⟨_, rfl, rfl, sat_VolR.2 ⟨_, _, hP.upB (u := u) ?_ ?_, hs1⟩⟩
  · intro t ht
    have : (t == u % 4096) = (u / 4096 * 4096 + t == u) := by rw [Bool.eq_iff_iff]; simp; omega
    rw [this]
  · intro j hj
    have : (j == u) = false := by simp; intro e; exact hj (by rw [e])
    simp [this]
set_option maxHeartbeats 1000000 in
theorem volSuper (h : SatL w (VolR vb b i U V :: L)) :
    Calls Try.prog 27 #[.pointer (some ⟨vb, 0, none⟩)] w (Ret fun v w' => v = planV b i (tableN b) (dataN b i) ∧ SatL w' (VolR vb b i U V :: L)) := by
  obtain ⟨puts, mb, hP, hs⟩ := sat_VolR.1 h
  obtain ⟨m, h1⟩ := sat_ViewR.1 hs
  have hr : ∀ j v, (viewCells m mb (mkRows b i 0 0).length i (tableN b) (dataN b i))[j]? = some v → (w.alloc (.cells #[.int .i64 0, .int .i64 0, .int .i64 0, .int .i64 0, .int .i64 0, .int .i64 0, .int .i64 0, .int .i64 0] 68)).cell? ⟨vb, j, none⟩ = some v := fun j v hj => SatL.cell (SatL.pull (h1.alloc (.cells #[.int .i64 0, .int .i64 0, .int .i64 0, .int .i64 0, .int .i64 0, .int .i64 0, .int .i64 0, .int .i64 0] 68)) 1 : SatL _ (cl _ _ _ :: _)) hj
  have c1 := hr 1 _ rfl
  have c2 := hr 2 _ rfl
  have c3 := hr 3 _ rfl
  have c4 := hr 4 _ rfl
  have c5 := hr 5 _ rfl
  have c6 := hr 6 _ rfl
  have c7 := hr 7 _ rfl
  have c8 := hr 8 _ rfl
  rw [mkRows_len] at c1
  have hfin := SatL.tail (h.alloc (.cells #[.int .i64 b, .int .i64 i, .int .i64 1, .int .i64 2, .int .i64 68, .int .i64 69, .int .i64 (tableN b), .int .i64 (dataN b i)] 68))
  clear hr h1 hs hP h
  generalize tableN b = tb at *
  generalize dataN b i = dt at *
  go_enter Try.func27, Try.ntmps27
  go_wp2
  refine bodyPost_ret (v := planV b i tb dt) (by simp [results, Try.results27, go_sem, planV]) rfl (Ret.mk ⟨rfl, ?_⟩)
  exact hfin
end
end Go.Proofs.Ytklnlomleiebaaa
