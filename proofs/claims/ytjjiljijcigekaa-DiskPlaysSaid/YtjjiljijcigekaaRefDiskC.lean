/- The document's disk: Crash. No condition beside the sizes that it names. -/
import Derived.Test.YtjjiljijcigekaaRefDiskF
import Derived.Test.YtjjiljijcigekaaDiskC
namespace Go.Proofs.Ytjjiljijcigekaa
set_option linter.unusedVariables false
set_option linter.unusedSimpArgs false
open Go.RowKit
theorem big_congr {α : Type} {f g : α → HP} {xs : List α} (h : ∀ x ∈ xs, f x = g x) : big f xs = big g xs := by
  unfold big
  rw [List.map_congr_left h]
theorem bkr_congr {s s2 : Dsk} {b : Bk} (hP : s2.P b.k = s.P b.k) (hV : s2.V b.k = s.V b.k) : BkR s b = BkR s2 b := by
  unfold BkR
  rw [hP, hV]
/-- one block is another one now -/
theorem rdsk_upd {w : World} {L : List HP} {xb : Nat} {s s2 : Dsk} {lv : Value} {A B : List Bk} {b b' : Bk} (ok : ROk s (A ++ b :: B)) (hn : s2.n = s.n) (hP : ∀ j, j ≠ b.k → s2.P j = s.P j) (hV : ∀ j, j ≠ b.k → s2.V j = s.V j)
    (hpl : (s2.P b.k).length = 512) (hrow : ∀ r ∈ s2.V b.k, r.length = 512) (hp : b'.p = b.p) (hk : b'.k = b.k)
    (h : SatL w (BkR s2 b' :: big (BkR s) (A ++ B) :: cl xb 54 #[.int .i64 s.n, lv] :: Sl 76 lv ((A ++ b :: B).map bptr) :: L)) : SatL w (RDsk xb s2 :: L) := by
  have hkeys : (A ++ b' :: B).map (·.k) = (A ++ b :: B).map (·.k) := by simp [hk]
  have hptr : (A ++ b' :: B).map bptr = (A ++ b :: B).map bptr := by simp [bptr, hp]
  have hnd := ok.nd
  have hne : ∀ x ∈ A ++ B, x.k ≠ b.k := by
    intro x hx e
    have h1 := ((List.perm_middle (a := b) (l₁ := A) (l₂ := B)).map (·.k)).nodup_iff.1 hnd
    rw [List.map_cons, List.nodup_cons] at h1
    exact h1.1 (by rw [← e]; exact List.mem_map_of_mem hx)
  rw [big_congr (g := BkR s2) (fun x hx => bkr_congr (hP _ (hne x hx)) (hV _ (hne x hx)))] at h
  have h1 := (big_mid (f := BkR s2)).2 h
  rw [← hn, ← hptr] at h1
  refine sat_RDsk.2 ⟨lv, A ++ b' :: B, ⟨by rw [hn]; exact ok.bd, by rw [hkeys]; exact ok.nd, fun x hx => ?_, fun i hi hm => ?_, fun i hi => ?_, fun i r hr => ?_⟩, h1.bring [1, 2, 0]⟩
  · have : x.k ∈ (A ++ b :: B).map (·.k) := by rw [← hkeys]; exact List.mem_map_of_mem hx
    obtain ⟨y, hy, e⟩ := List.mem_map.1 this
    rw [hn, ← e]; exact ok.key y hy
  · rw [hkeys] at hm
    have hib : i ≠ b.k := fun e => hm (by rw [e]; simp)
    rw [hP i hib, hV i hib]
    exact ok.off i (by rw [← hn]; exact hi) hm
  · by_cases hib : i = b.k
    · rw [hib]; exact hpl
    · rw [hP i hib]; exact ok.pl i (by rw [← hn]; exact hi)
  · by_cases hib : i = b.k
    · rw [hib] at hr; exact hrow r hr
    · rw [hV i hib] at hr; exact ok.row i r hr
/-- q dirty blocks have been settled -/
def Dsk.cr (s : Dsk) (n : Nat) (Z : Nat → Int) (q : Nat) : Dsk := ⟨s.n, s.cp n Z q, fun i => if i ∈ s.dirtyN.take q then [] else s.V i⟩
theorem cr_zero (s : Dsk) (n : Nat) (Z : Nat → Int) : s.cr n Z 0 = s := by
  obtain ⟨a, b, c⟩ := s
  unfold Dsk.cr
  simp only [List.take_zero, List.not_mem_nil, if_false]
  rfl
theorem dirtyN_nodup (s : Dsk) : s.dirtyN.Nodup := List.nodup_range.filter _
theorem dirtyN_lt {s : Dsk} {i : Nat} (h : i ∈ s.dirtyN) : i < s.n ∧ s.V i ≠ [] := by
  unfold Dsk.dirtyN at h
  rw [List.mem_filter, List.mem_range] at h
  exact ⟨h.1, by simpa using h.2⟩
theorem cr_end {s : Dsk} (ho : ∀ i, s.n ≤ i → s.V i = []) (n : Nat) (Z : Nat → Int) : s.cr n Z s.dirtyN.length = s.crash n Z := by
  unfold Dsk.cr Dsk.crash
  congr 1
  funext i
  rw [List.take_length]
  split
  · rfl
  · rename_i h
    rcases Nat.lt_or_ge i s.n with h1 | h1
    · rcases Classical.em (s.V i = []) with h2 | h2
      · exact h2
      · exact absurd (by unfold Dsk.dirtyN; rw [List.mem_filter, List.mem_range]; exact ⟨h1, by simpa using h2⟩) h
    · exact ho i h1
theorem take_not {α : Type} {l : List α} (hn : l.Nodup) {q : Nat} {i : α} (h : l[q]? = some i) : i ∉ l.take q := by
  intro hm
  obtain ⟨j, hj, e⟩ := List.getElem_of_mem hm
  rw [List.getElem_take] at e
  rw [List.length_take] at hj
  have h1 : l[j]? = some i := by rw [List.getElem?_eq_getElem (by omega), e]
  have := (List.getElem?_inj (by omega) hn).1 (h1.trans h.symm)
  omega
theorem cr_v {s : Dsk} {n : Nat} {Z : Nat → Int} {q i : Nat} (h : s.dirtyN[q]? = some i) : (s.cr n Z q).V i = s.V i := if_neg (take_not (dirtyN_nodup s) h)
theorem cr_v_at {s : Dsk} {n : Nat} {Z : Nat → Int} {q i : Nat} (h : s.dirtyN[q]? = some i) : (s.cr n Z (q + 1)).V i = [] := if_pos (by rw [List.take_add_one, h]; simp)
theorem cr_v_off {s : Dsk} {n : Nat} {Z : Nat → Int} {q i j : Nat} (h : s.dirtyN[q]? = some i) (hj : j ≠ i) : (s.cr n Z (q + 1)).V j = (s.cr n Z q).V j := by
  show (if _ then _ else _) = (if _ then _ else _)
  rw [List.take_add_one, h]
  simp only [Option.toList_some, List.mem_append, List.mem_singleton, hj, or_false]
theorem cr_p {s : Dsk} {n : Nat} {Z : Nat → Int} {q i : Nat} (h : s.dirtyN[q]? = some i) (j : Nat) : (s.cr n Z (q + 1)).P j = if j = i ∧ pickN n Z q (s.V i).length ≠ 0 then (s.V i).getD (pickN n Z q (s.V i).length - 1) [] else (s.cr n Z q).P j := by
  show (if _ then _ else _) = _
  by_cases hj : j = i
  · subst hj
    rw [h]
    simp only [true_and]
    rfl
  · rw [if_neg (fun e => hj (by have := e.1; rw [h] at this; injection this with this; exact this.symm)), if_neg (fun e => hj e.1)]
    rfl
theorem tmod_one (z : Int) (n : Nat) : (Int.tmod z ((n + 1 : Nat) : Int) < 0 → z % ((n + 1 : Nat) : Int) = Int.tmod z ((n + 1 : Nat) : Int) + ((n + 1 : Nat) : Int)) ∧ (¬ Int.tmod z ((n + 1 : Nat) : Int) < 0 → z % ((n + 1 : Nat) : Int) = Int.tmod z ((n + 1 : Nat) : Int)) := by
  have hn : 0 < ((n + 1 : Nat) : Int) := by omega
  have h1 := Int.lt_tmod_of_pos z hn
  have h2 := Int.tmod_lt_of_pos z hn
  have e : z % ((n + 1 : Nat) : Int) = Int.tmod z ((n + 1 : Nat) : Int) % ((n + 1 : Nat) : Int) := by
    have := Int.tmod_def z ((n + 1 : Nat) : Int)
    rw [this, Int.sub_mul_emod_self_left]
  refine ⟨fun h => ?_, fun h => ?_⟩
  · rw [e, ← Int.add_emod_right, Int.emod_eq_of_lt (by omega) (by omega)]
  · rw [e, Int.emod_eq_of_lt (by omega) h2]
section
variable {w : World} {L : List HP} {xb : Nat} {s : Dsk}
set_option maxRecDepth 100000 in
set_option maxHeartbeats 4000000 in
theorem refcrash_ok {a : Option Addr} {n c : Nat} {Z : Nat → Int} (ho : ∀ i, s.n ≤ i → s.V i = []) (hZ : ∀ i, i < n → -9223372036854775808 ≤ Z i ∧ Z i ≤ 9223372036854775807) (hV : ∀ i, (s.V i).length ≤ 1000000) (h : SatL w (RDsk xb s :: L)) (g : Gives L (fun w' => IsRow w' 1 a n (fun i => [.int .i64 (Z i)]))) :
    Calls Try.prog 29 #[.pointer (some ⟨xb, 0, none⟩), .slice a n c] w (Ret fun r w' => r = .int .i64 s.dirtyN.length ∧ SatL w' (RDsk xb (s.crash n Z) :: L)) := by
  have hdi := refdirty_ok h
  have hdl : s.dirty.length = s.dirtyN.length := List.length_map _
  have hDn : s.dirtyN.length ≤ 65536 := by obtain ⟨_, _, ok, _⟩ := sat_RDsk.1 h; have := dirty_len s; have := ok.bd.2; omega
  have Hg := hid g
  have HV := hid hV
  have HZ := hid hZ
  have Hend := hid (cr_end ho n Z)
  clear h g hV hZ ho
  go_enter Try.func29, Try.ntmps29
  go_wp2_with (first | (go_at_call 32; (with_reducible refine hdi.mono ?_); rintro e w2 ⟨lv, rfl, h2⟩; obtain ⟨la, lc, rfl, l1, l2⟩ := Sl.valn h2 (m := s.dirtyN.length) (by rw [List.length_map, hdl])))
  have hnz : n ≤ 9223372036854775807 := (Hg.out _ h2.tail.tail).1
  rw [← cr_zero s n Z] at h2
  have hdi2 : s.dirty.map (Value.int .i64) = s.dirtyN.map (fun i : Nat => Value.int .i64 (i : Int)) := by unfold Dsk.dirty; rw [List.map_map]; rfl
  rw [cr_zero s n Z, hdi2, ← cr_zero s n Z] at h2
  clear hdi hdi2
  go_loopw [6] (fun v wr => ∃ q : Nat, q ≤ s.dirtyN.length ∧ v = .int .i64 q ∧ SatL wr (Sl 3 (.slice la s.dirtyN.length lc) (s.dirtyN.map (fun i : Nat => Value.int .i64 (i : Int))) :: RDsk xb (s.cr n Z q) :: L)) (fun v _ => s.dirtyN.length - (intOf v).toNat)
  case atStart => exact ⟨0, by omega, rfl, h2⟩
  case round =>
    clear h2
    obtain ⟨q, hq, rfl, hs⟩ := hrel
    by_cases hlt : q < s.dirtyN.length
    · obtain ⟨i, hi⟩ : ∃ i, s.dirtyN[q]? = some i := ⟨_, List.getElem?_eq_getElem hlt⟩
      obtain ⟨hin, hVne⟩ := dirtyN_lt (List.mem_of_getElem? hi)
      obtain ⟨lb, lo, rfl⟩ := Sl.addr hs (by omega)
      have cq := Sl.cell hs (i := q) (x := .int .i64 (i : Int)) (by rw [List.getElem?_map, hi]; rfl)
      obtain ⟨dv, bs, ok, h3⟩ := sat_RDsk.1 (SatL.pull hs 1 : SatL wr (RDsk _ _ :: _))
      have hm : i ∈ bs.map (·.k) := by
        rcases Classical.em (i ∈ bs.map (·.k)) with h | h
        · exact h
        · exact absurd ((ok.off i hin h).2.symm.trans (cr_v hi)).symm hVne
      obtain ⟨b, hbm, rfl⟩ := List.mem_map.1 hm
      have hat := at_some ok hbm h3
      obtain ⟨A, B, rfl⟩ := List.append_of_mem hbm
      have h4 := sat_BkR.1 (big_mid.1 (SatL.pull h3 2 : SatL wr (big _ _ :: _)))
      have hv := cr_v (n := n) (Z := Z) hi
      rw [hv] at h4
      have hVl := HV.out b.k
      obtain ⟨va, vc, hvv, w1, w2, hrd⟩ := RowsL.rd (SatL.pull h4 2 : SatL wr (RowsL _ _ :: _))
      have k2 : wr.cell? ⟨b.p, 2, none⟩ = some b.vv := SatL.cell h4 (i := 2) rfl
      have k1 : wr.cell? ⟨b.p, 1, none⟩ = some b.sv := SatL.cell h4 (i := 1) rfl
      have f1 := SatL.free h4 1
      have f2 := SatL.free h4 2
      rw [hvv] at k2
      obtain ⟨K, hK⟩ : ∃ K, K = pickN n Z q (s.V b.k).length := ⟨_, rfl⟩
      have hKl : K ≤ (s.V b.k).length := by rw [hK]; exact pickN_le _ _ _ _
      have hcp := cr_p (n := n) (Z := Z) hi
      rw [← hK] at hcp
      have hrow0 : ∀ r ∈ (s.cr n Z (q + 1)).V b.k, r.length = 512 := by rw [cr_v_at hi]; exact fun r hr => absurd hr List.not_mem_nil
      have hE0 : K = 0 → SatL (wr.setCell ⟨b.p, 2, none⟩ (.slice none 0 0)) (Sl 3 (.slice (some ⟨lb, lo, none⟩) s.dirtyN.length lc) (s.dirtyN.map (fun i : Nat => Value.int .i64 (i : Int))) :: RDsk xb (s.cr n Z (q + 1)) :: L) := by
        intro hK0
        have hPe : ∀ j, (s.cr n Z (q + 1)).P j = (s.cr n Z q).P j := fun j => by rw [hcp j, if_neg (fun e => e.2 hK0)]
        have h5 := (h4.set (i := 2) (.slice none 0 0)).bring [0, 1, 3, 4, 5, 6]
        have h6 : SatL _ (BkR (s.cr n Z (q + 1)) ⟨b.p, b.k, b.sv, .slice none 0 0⟩ :: _) := sat_BkR.2 (by
          show SatL _ (cl b.p 79 #[.int .i64 b.k, b.sv, .slice none 0 0] :: SlB 5 b.sv ((s.cr n Z (q + 1)).P b.k) :: RowsL (.slice none 0 0) ((s.cr n Z (q + 1)).V b.k) :: _)
          rw [hPe, cr_v_at hi]
          exact SatL.bring (sat_RowsL.2 ⟨[], rfl, sat_RowsR.2 (Sl_nil ((big_nil (f := fun r : Rw => SlB 5 r.v r.d)).2 h5))⟩ : SatL _ (RowsL (.slice none 0 0) [] :: _)) [1, 2, 0])
        have h7 := rdsk_upd ok (s2 := s.cr n Z (q + 1)) (b' := ⟨b.p, b.k, b.sv, .slice none 0 0⟩) rfl (fun j _ => hPe j) (fun j hj => cr_v_off hi hj) (by rw [hPe]; exact ok.pl b.k hin) hrow0 rfl rfl h6
        exact (h7.bring [2]).tail.swap
      have hE1 : ∀ k, K = k + 1 → ∃ vb vo xa xl xc, va = some ⟨vb, vo, none⟩ ∧ wr.cell? ⟨vb, vo + k, none⟩ = some (.slice xa xl xc) ∧ (wr.setCell ⟨b.p, 1, none⟩ (.slice xa xl xc)).frozen? ⟨b.p, 2, none⟩ = false ∧ (wr.setCell ⟨b.p, 1, none⟩ (.slice xa xl xc)).cell? ⟨b.p, 2, none⟩ = some (.slice va (s.V b.k).length vc) ∧
          SatL ((wr.setCell ⟨b.p, 1, none⟩ (.slice xa xl xc)).setCell ⟨b.p, 2, none⟩ (.slice none 0 0)) (Sl 3 (.slice (some ⟨lb, lo, none⟩) s.dirtyN.length lc) (s.dirtyN.map (fun i : Nat => Value.int .i64 (i : Int))) :: RDsk xb (s.cr n Z (q + 1)) :: L) := by
        intro k hk
        obtain ⟨row, hrow⟩ : ∃ row, (s.V b.k)[k]? = some row := ⟨_, List.getElem?_eq_getElem (by omega)⟩
        obtain ⟨vb, vo, rfl, _⟩ := hrd (by omega)
        obtain ⟨rs, hrs, h23⟩ := sat_RowsL.1 (SatL.pull h4 2 : SatL wr (RowsL _ _ :: _))
        have h24 := sat_RowsR.1 h23
        obtain ⟨x, hx, hxd⟩ : ∃ x, rs[k]? = some x ∧ x.d = row := by
          rw [← hrs, List.getElem?_map] at hrow
          obtain ⟨x, hx, e⟩ := Option.map_eq_some_iff.1 hrow
          exact ⟨x, hx, e⟩
        have k5 : wr.cell? ⟨vb, vo + k, none⟩ = some x.v := by
          have h25 := h24
          rw [hvv] at h25
          exact Sl.cell h25 (by rw [List.getElem?_map, hx]; rfl)
        obtain ⟨P1, P2, hP⟩ := List.append_of_mem (List.mem_of_getElem? hx)
        have h25 := SatL.pull h24 1
        rw [hP] at h25
        have h26 := ((big_mid (f := fun r : Rw => SlB 5 r.v r.d)).1 h25).bring [3, 0, 5, 6, 7, 8]
        rw [hxd] at h26
        obtain ⟨X, hX⟩ : ∃ X, x.v = X := ⟨_, rfl⟩
        rw [hX] at h26 k5
        obtain ⟨xa, xc, rfl, _, _⟩ := SlB.valn (SatL.pull h26 1 : SatL _ (SlB _ _ _ :: _))
        have h31 := h26.set (i := 1) (.slice xa row.length xc)
        have h32 := h31.set (i := 2) (.slice none 0 0)
        have hPe : (s.cr n Z (q + 1)).P b.k = row := by
          rw [hcp, if_pos ⟨rfl, by omega⟩, hk, Nat.add_sub_cancel, List.getD_eq_getElem?_getD, hrow]; rfl
        have h6 : SatL _ (BkR (s.cr n Z (q + 1)) ⟨b.p, b.k, .slice xa row.length xc, .slice none 0 0⟩ :: _) := sat_BkR.2 (by
          show SatL _ (cl b.p 79 #[.int .i64 b.k, .slice xa row.length xc, .slice none 0 0] :: SlB 5 (.slice xa row.length xc) ((s.cr n Z (q + 1)).P b.k) :: RowsL (.slice none 0 0) ((s.cr n Z (q + 1)).V b.k) :: _)
          rw [hPe, cr_v_at hi]
          exact SatL.bring (sat_RowsL.2 ⟨[], rfl, sat_RowsR.2 (Sl_nil ((big_nil (f := fun r : Rw => SlB 5 r.v r.d)).2 h32))⟩ : SatL _ (RowsL (.slice none 0 0) [] :: _)) [1, 2, 0])
        have hrl : row.length = 512 := ok.row b.k row (by rw [hv]; exact List.mem_of_getElem? hrow)
        have h7 := rdsk_upd ok (s2 := s.cr n Z (q + 1)) (b' := ⟨b.p, b.k, .slice xa row.length xc, .slice none 0 0⟩) rfl (fun j hj => by rw [hcp j, if_neg (fun e => hj e.1)]) (fun j hj => cr_v_off hi hj) (by rw [hPe]; exact hrl) hrow0 rfl rfl h6
        have g2 := SatL.cell h31 (i := 2) (v := b.vv) rfl
        rw [hvv] at g2
        exact ⟨vb, vo, xa, row.length, xc, rfl, k5, SatL.free h31 2, g2, (h7.bring [2, 3, 4]).tail.tail.tail.swap⟩
      have HE0 := hid hE0
      have HE1 := hid hE1
      clear hE0 hE1
      by_cases hqn : q < n
      · obtain ⟨pb, po, rfl, hx⟩ := (Hg.out wr hs.tail.tail).2 (by omega)
        have cz := (hx q hqn).2 0 _ rfl
        rw [Nat.mul_one, Nat.add_zero] at cz
        have hzr := HZ.out q hqn
        have hKe : (K : Int) = (Z q) % (((s.V b.k).length + 1 : Nat) : Int) := by
          rw [hK]; unfold pickN
          rw [if_pos hqn]
          have := Int.emod_nonneg (Z q) (show (((s.V b.k).length + 1 : Nat) : Int) ≠ 0 by omega)
          omega
        have e1 := tmod_one (Z q) (s.V b.k).length
        rw [← hKe] at e1
        have b1 := Int.lt_tmod_of_pos (Z q) (show 0 < (((s.V b.k).length + 1 : Nat) : Int) by omega)
        have b2 := Int.tmod_lt_of_pos (Z q) (show 0 < (((s.V b.k).length + 1 : Nat) : Int) by omega)
        clear hx hK hKe hs h3 h4 ok hcp hrd hi hVne hvv hv hrow0
        push_cast at e1 b1 b2
        generalize (s.V b.k).length = vl at *
        generalize Z q = z at *
        obtain ⟨t, ht⟩ : ∃ t, t = Int.tmod z ((vl : Int) + 1) := ⟨_, rfl⟩
        rw [← ht] at e1 b1 b2
        have ht' := ht.symm
        clear ht
        have hN0 : ¬ ((vl : Int) + 1 = 0) := by omega
        by_cases ht0 : t < 0
        · have he := e1.1 ht0
          obtain ⟨k, rfl⟩ : ∃ k, K = k + 1 := ⟨K - 1, by omega⟩
          obtain ⟨vb, vo, xa, xl, xc, rfl, k5, g1, g2, hend⟩ := HE1.out k rfl
          have ew1 : IntKind.i64.wrap (t + ((vl : Int) + 1)) = k + 1 := by rw [IntWalk.i64_in _ (by omega)]; omega
          have ew2 : IntKind.i64.wrap (k : Int) = k := IntWalk.i64_in _ (by omega)
          have hk0 : (0 : Int) < (k : Int) + 1 := by omega
          have hk1 : (k : Int) < (vl : Int) := by omega
          have Hend2 := hid hend
          clear hend e1 he
          go_wp2_with (first
            | (go_at_call 36; (with_reducible refine hat.mono ?_); rintro e w' ⟨v, rfl, rfl, rfl⟩))
          go_roundw
          case rel => exact ⟨q + 1, by omega, by go_num, Hend2.out⟩
          case measure => simp [intOf]; omega
        · have he := e1.2 ht0
          have hKt : K = t := by omega
          have ewt : IntKind.i64.wrap t = t := IntWalk.i64_in _ (by omega)
          clear e1 he
          by_cases hK0 : K = 0
          · subst hK0
            obtain rfl : t = 0 := by omega
            have Hend2 := hid (HE0.out rfl)
            clear HE1 HE0
            go_wp2_with (first
              | (go_at_call 36; (with_reducible refine hat.mono ?_); rintro e w' ⟨v, rfl, rfl, rfl⟩))
            go_roundw
            case rel => exact ⟨q + 1, by omega, by go_num, Hend2.out⟩
            case measure => simp [intOf]; omega
          · obtain ⟨k, rfl⟩ : ∃ k, K = k + 1 := ⟨K - 1, by omega⟩
            obtain ⟨vb, vo, xa, xl, xc, rfl, k5, g1, g2, hend⟩ := HE1.out k rfl
            obtain rfl : t = (k : Int) + 1 := by omega
            have ew2 : IntKind.i64.wrap (k : Int) = k := IntWalk.i64_in _ (by omega)
            have hk0 : (0 : Int) < (k : Int) + 1 := by omega
            have hk1 : (k : Int) < (vl : Int) := by omega
            have Hend2 := hid hend
            clear hend hKt hK0
            go_wp2_with (first
              | (go_at_call 36; (with_reducible refine hat.mono ?_); rintro e w' ⟨v, rfl, rfl, rfl⟩))
            go_roundw
            case rel => exact ⟨q + 1, by omega, by go_num, Hend2.out⟩
            case measure => simp [intOf]; omega
      · have hK0 : K = 0 := by rw [hK]; unfold pickN; rw [if_neg hqn]
        have Hend2 := hid (HE0.out hK0)
        clear HE1 HE0 hK hs h3 h4 ok hcp hrd hi hVne hvv hv hrow0 hK0
        go_wp2_with (first
          | (go_at_call 36; (with_reducible refine hat.mono ?_); rintro e w' ⟨v, rfl, rfl, rfl⟩))
        go_roundw
        case rel => exact ⟨q + 1, by omega, by go_num, Hend2.out⟩
        case measure => simp [intOf]; omega
    · obtain rfl : q = s.dirtyN.length := by omega
      rw [Hend.out] at hs
      have hR := hs.tail
      clear hs
      go_wp2
      go_ret
      exact Ret.mk ⟨rfl, hR⟩
end
end Go.Proofs.Ytjjiljijcigekaa
