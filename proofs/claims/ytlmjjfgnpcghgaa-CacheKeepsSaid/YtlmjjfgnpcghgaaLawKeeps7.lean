/- CacheKeeps: what is dirty or pinned is never let go, what is told of a block is what was laid in last. No condition. -/
import Derived.Test.YtlmjjfgnpcghgaaKeeps
import Derived.Test.YtlmjjfgnpcghgaaLaw7A
import Derived.Test.YtlmjjfgnpcghgaaCacheH
import Derived.Test.YtlmjjfgnpcghgaaRegE
namespace Go.Proofs.Ytlmjjfgnpcghgaa
set_option linter.unusedVariables false
set_option linter.unusedSimpArgs false
open Go.RowKit
def fv16 (f : Nat → Value) : List Value := (List.range 16).map f
theorem fv16_len (f : Nat → Value) : (fv16 f).length = 16 := by simp [fv16]
theorem fv16_get (f : Nat → Value) {k : Nat} (h : k < 16) : (fv16 f)[k]? = some (f k) := by simp [fv16, h]
theorem fv16_set (f : Nat → Value) (k : Nat) (v : Value) : (fv16 f).set k v = fv16 (fput f k v) := by
  refine List.ext_getElem? fun i => ?_
  rw [List.getElem?_set, fv16_len]
  by_cases hi : i < 16
  · rw [fv16_get _ hi, fv16_get _ hi]
    by_cases e : k = i
    · subst e; simp [hi, fput]
    · rw [if_neg e]; simp [fput, Ne.symm e]
  · rw [List.getElem?_eq_none (by rw [fv16_len]; omega), List.getElem?_eq_none (by rw [fv16_len]; omega)]
    split
    · split
      · omega
      · rfl
    · rfl
def sv (s : Nat → List UInt8) : List Value := fv16 fun k => .string ⟨(s k).toArray⟩
def dv (d : Nat → Bool) : List Value := fv16 fun k => .bool (d k)
def qv (q : Nat → Int) : List Value := fv16 fun k => .int .i64 (q k)
theorem sv_set (s : Nat → List UInt8) (k : Nat) (x : List UInt8) : (sv s).set k (.string ⟨x.toArray⟩) = sv (fput s k x) := by
  unfold sv; rw [fv16_set]; congr 1; funext t; unfold fput; split <;> rfl
theorem dv_set (d : Nat → Bool) (k : Nat) (x : Bool) : (dv d).set k (.bool x) = dv (fput d k x) := by
  unfold dv; rw [fv16_set]; congr 1; funext t; unfold fput; split <;> rfl
theorem qv_set (q : Nat → Int) (k : Nat) (x : Int) : (qv q).set k (.int .i64 x) = qv (fput q k x) := by
  unfold qv; rw [fv16_set]; congr 1; funext t; unfold fput; split <;> rfl
theorem elem_str : ElemOk Try.prog 47 9 1 16 [Value.string ByteArray.empty] := .of (z := .string ByteArray.empty) (by kernel_rfl) (by kernel_rfl) rfl rfl (by decide) (by simp [Value.oneCell'])
theorem elem_bool : ElemOk Try.prog 35 4 1 1 [Value.bool false] := .of (z := .bool false) (by kernel_rfl) (by kernel_rfl) rfl rfl (by decide) (by simp [Value.oneCell'])
abbrev s16 (b : Nat) : Value := .slice (some ⟨b, 0, none⟩) 16 16
def KState (pb n lb db qb : Nat) (bs : List Blk) (d : Nat → Bool) (q : Nat → Int) (s : Nat → List UInt8) (L : List HP) : List HP :=
  CacheA pb (n : Int) bs :: Sl 9 (s16 lb) (sv s) :: Sl 4 (s16 db) (dv d) :: Sl 3 (s16 qb) (qv q) :: L
set_option maxRecDepth 100000 in
set_option maxHeartbeats 16000000 in
theorem keeps7_walk (a0 : Int) (a1 : Option Addr) (l1 c1 : Nat) (kd N Sz : Nat → Int) (B : Nat → Nat) (w : World) (hA : IsRow w 4 a1 l1 (fun i => [.int .i64 (kd i), .int .i64 (N i), .int .i64 (Sz i), .int .u8 (B i : Int)])) (hB : ∀ i, B i < 256) :
    Calls Try.prog 6 #[.int .i64 a0, .slice a1 l1 c1] w (Ret fun v w' => v = .bool true ∧ SatL w' [old w]) := by
  have hk := known_ok (sat_old w)
  have hwi := hid (fun (w' : World) (L : List HP) (h : SatL w' L) => within_ok a0 8 (by omega) h)
  have hwb := within_bd a0 8 (by omega)
  obtain ⟨n, hn⟩ : ∃ n : Nat, (n : Int) = 1 + withinI a0 8 := ⟨(1 + withinI a0 8).toNat, by omega⟩
  have hn1 : 1 ≤ n ∧ n ≤ 8 := by omega
  have hnew := hid (fun (w' : World) (L : List HP) (h : SatL w' L) => new_A (n : Int) h (by omega))
  have hlm := hA.1
  have hrow := hid (fun (w' : World) (h : SatL w' [old w]) (h0 : 0 < l1) => (by
    obtain ⟨b, o, e, hx⟩ := hA.2 h0
    exact ⟨b, o, e, fun i hi => by
      have hh := (hx i hi).2
      have y0 := h.oldCell (hh 0 _ rfl)
      have y1 := h.oldCell (hh 1 _ rfl)
      have y2 := h.oldCell (hh 2 _ rfl)
      have y3 := h.oldCell (hh 3 _ rfl)
      rw [Nat.add_zero] at y0
      exact ⟨y0, y1, y2, y3⟩⟩ : ∃ b o, a1 = some ⟨b, o, none⟩ ∧ ∀ i, i < l1 → w'.cell? ⟨b, o + i * 4, none⟩ = some (.int .i64 (kd i)) ∧ w'.cell? ⟨b, o + i * 4 + 1, none⟩ = some (.int .i64 (N i)) ∧ w'.cell? ⟨b, o + i * 4 + 2, none⟩ = some (.int .i64 (Sz i)) ∧ w'.cell? ⟨b, o + i * 4 + 3, none⟩ = some (.int .u8 (B i : Int))))
  have z1 := hid (show List.replicate 16 (Value.string ByteArray.empty) = sv (fun _ => []) from rfl)
  have z2 := hid (show List.replicate 16 (Value.bool false) = dv (fun _ => false) from rfl)
  have z3 := hid (show List.replicate 16 (Value.int .i64 0) = qv (fun _ => 0) from rfl)
  have hw16 := hid (fun (a : Int) (w' : World) (L : List HP) (h : SatL w' L) => within_ok a 16 (by omega) h)
  clear hA
  go_enter Try.func6, Try.ntmps6
  go_upto_region 4 with (first
    | (go_at_call 7; (with_reducible refine hk.mono ?_); rintro e w1 ⟨v, rfl, rfl, h1⟩)
    | (go_at_call 8; (with_reducible refine (hwi.out _ _ h1).mono ?_); rintro e w2 ⟨v, rfl, rfl, h2⟩))
  rw [← hn]
  clear hn hwb hwi hk h1
  go_wp2_with (first
    | (go_at_call 9; (with_reducible refine (hnew.out _ _ h2).mono ?_); rintro e w3 ⟨v, rfl, pb, rfl, h3⟩)
    | (refine wpList_make_sl rfl (.const (.int .i64 16)) (.const (.int .i64 16)) rfl elem_str 16 rfl rfl h3 (by omega) (by omega) ?_; intro w4 h4; rw [z1.out] at h4)
    | (refine wpList_make_sl rfl (.const (.int .i64 16)) (.const (.int .i64 16)) rfl elem_bool 16 rfl rfl h4 (by omega) (by omega) ?_; intro w5 h5; rw [z2.out] at h5)
    | (refine wpList_make_sl rfl (.const (.int .i64 16)) (.const (.int .i64 16)) rfl elem_int 16 rfl rfl h5 (by omega) (by omega) ?_; intro w6 h6; rw [z3.out] at h6))
  obtain ⟨lb, hlb⟩ : ∃ lb, lb = w3.heap.size := ⟨_, rfl⟩
  obtain ⟨db, hdb⟩ : ∃ db, db = w4.heap.size := ⟨_, rfl⟩
  obtain ⟨qb, hqb⟩ : ∃ qb, qb = w5.heap.size := ⟨_, rfl⟩
  rw [← hlb, ← hdb, ← hqb] at h6 ⊢
  have H6 := hid (show SatL w6 (KState pb n lb db qb [] (fun _ => false) (fun _ => 0) (fun _ => []) [old w]) from h6.bring [3, 2, 1, 0])
  clear h2 h3 h4 h5 h6 hlb hdb hqb z1 z2 z3 hnew
  go_loopw [10] (fun x wr => ∃ (i : Nat) (bs : List Blk) (h d : Nat → Bool) (q : Nat → Int) (s : Nat → List UInt8), i ≤ l1 ∧ i ≤ 150 ∧ x = .int .i64 i ∧ KInv n i bs h d q s ∧ SatL wr (KState pb n lb db qb bs d q s [old w])) (fun x _ => 150 - (intOf x).toNat)
  case atStart => exact ⟨0, _, _, _, _, _, by omega, by omega, rfl, KInv.start n, H6.out⟩
  case round =>
    clear H6
    obtain ⟨i, bs, h, d, q, s, hi, hi2, rfl, hI, hs⟩ := hrel
    by_cases hgo : i < l1 ∧ i < 150
    · obtain ⟨hlt, hlt2⟩ := hgo
      have hiz : (i : Int) < l1 := by omega
      have hiz2 : (i : Int) < 150 := by omega
      obtain ⟨b, o, rfl, hx⟩ := hrow.out wr hs.tail.tail.tail.tail (by omega)
      obtain ⟨e0, e1, e2, e3⟩ := hx i hlt
      clear hx
      have hBi := hB i
      generalize kd i = kdi at *
      generalize N i = Ni at *
      generalize Sz i = Si at *
      generalize B i = Bi at *
      have hwi := within_bd Ni 16 (by omega)
      obtain ⟨k, hk⟩ : ∃ k : Nat, (k : Int) = withinI Ni 16 := ⟨(withinI Ni 16).toNat, by omega⟩
      have hk16 : k < 16 := by omega
      have ha := hs.alloc (.cells #[.int .i64 kdi, .int .i64 Ni, .int .i64 Si, .int .u8 (Bi : Int)] 44)
      have kw := hw16.out Ni _ _ ha
      rw [← hk] at kw
      have f1 := SatL.cell (ha : SatL _ (cl _ _ _ :: _)) (i := 1) (v := .int .i64 Ni) rfl
      clear hwi hk hs
      go_upto_block 2 with (go_at_call 8; (with_reducible refine kw.mono ?_); rintro e w2 ⟨v, rfl, rfl, h2⟩; have g1 := SatL.cell (h2 : SatL _ (cl _ _ _ :: _)) (i := 1) (v := .int .i64 Ni) rfl; have g2 := SatL.cell (h2 : SatL _ (cl _ _ _ :: _)) (i := 2) (v := .int .i64 Si) rfl; have g0 := SatL.cell (h2 : SatL _ (cl _ _ _ :: _)) (i := 0) (v := .int .i64 kdi) rfl; have y1 := SatL.free (h2 : SatL _ (cl _ _ _ :: _)) 1; have y2 := SatL.free (h2 : SatL _ (cl _ _ _ :: _)) 2)
      have h3 : SatL ((w2.setCell ⟨wr.heap.size, 1, none⟩ (.int .i64 (k : Nat))).setCell ⟨wr.heap.size, 2, none⟩ (.int .i64 0)) (cl wr.heap.size 44 #[.int .i64 kdi, .int .i64 (k : Nat), .int .i64 0, .int .u8 (Bi : Int)] :: KState pb n lb db qb bs d q s [old w]) := SatL.set (SatL.set (h2 : SatL _ (cl _ _ _ :: _)) (i := 1) (.int .i64 (k : Nat))) (i := 2) (.int .i64 0)
      generalize (w2.setCell ⟨wr.heap.size, 1, none⟩ (.int .i64 (k : Nat))).setCell ⟨wr.heap.size, 2, none⟩ (.int .i64 0) = w3 at *
      clear ha kw f1 g0 g1 g2 y1 y2 h2 e0 e1 e2 e3
      generalize wr.heap.size = ab at *
      have Hc := hid (fun (w' : World) (X : List HP) (h : SatL w' (cl ab 44 #[.int .i64 kdi, .int .i64 (k : Nat), .int .i64 0, .int .u8 (Bi : Int)] :: X)) => (⟨h.cell (i := 0) rfl, h.cell (i := 1) rfl, h.cell (i := 2) rfl, h.cell (i := 3) rfl⟩ : w'.cell? ⟨ab, 0, none⟩ = some (.int .i64 kdi) ∧ w'.cell? ⟨ab, 1, none⟩ = some (.int .i64 (k : Nat)) ∧ w'.cell? ⟨ab, 2, none⟩ = some (.int .i64 0) ∧ w'.cell? ⟨ab, 3, none⟩ = some (.int .u8 (Bi : Int))))
      have hbo := hI.blkOk (by omega)
      have hpo := hI.pinsOk (by omega)
      obtain ⟨D, hD⟩ : ∃ D, D = dataL Bi 512 := ⟨_, rfl⟩
      have hDl : D.length = 512 := by rw [hD]; exact dataL_len _ _
      have hdat := hid (fun (w' : World) (L : List HP) (h : SatL w' L) => (by have := data_ok (kd := kdi) (N := (k : Nat)) (s := 0) hBi h; rw [show dsz 0 = 512 from rfl, ← hD] at this; exact this : Calls Try.prog 24 #[.agg #[.int .i64 kdi, .int .i64 (k : Nat), .int .i64 0, .int .u8 (Bi : Int)]] w' (Ret fun r w'' => SatL w'' (SlB 5 r D :: L))))
      clear hD
      have hkz : (k : Int) < 16 := by omega
      have HI := hid hI
      have H3 := hid h3
      have Hbo := hid hbo
      have Hpo := hid hpo
      have H16 := hid hk16
      clear hI h3 hbo hpo
      go_cut [12, 13] from 58 to 156 (fun _ _ wx => ∃ (bs : List Blk) (h d : Nat → Bool) (q : Nat → Int) (s : Nat → List UInt8), KInv n (i + 1) bs h d q s ∧ SatL wx (cl ab 44 #[.int .i64 kdi, .int .i64 (k : Nat), .int .i64 0, .int .u8 (Bi : Int)] :: KState pb n lb db qb bs d q s [old w]))
      case first =>
        cases hb2 : (kdi == 2)
        case true =>
          as_aux_lemma =>
            have kf := hid (fun (w' : World) (v : Value) (X : List HP) (h : SatL w' (CacheA pb (n : Int) bs :: Sl 5 v (bvs D) :: X)) => fill_A (k := (k : Int)) h Hbo.out (by omega) (bvs_one D) (by rw [bvs_len]; omega))
            have hcase := HI.out.fill hk16 hDl
            generalize bfill (n : Int) bs (k : Int) (bvs D) = R at *
            have hs1 := sat_drew.2 H3.out
            have S0 := Hc.out _ _ hs1
            have kd0 := hdat.out _ _ hs1
            clear hs1
            rcases hcase with ⟨e, he, rfl⟩ | ⟨bs', h', rfl, hI'⟩
            · have he2 : (e == 0) = false := by simpa using he
              clear he
              go_upto_region 18 with fail
              refine GoE.start (fun w' => w'.cell? ⟨ab, 0, none⟩ = some (.int .i64 kdi) ∧ w'.cell? ⟨ab, 1, none⟩ = some (.int .i64 (k : Nat)) ∧ w'.cell? ⟨ab, 2, none⟩ = some (.int .i64 0) ∧ w'.cell? ⟨ab, 3, none⟩ = some (.int .u8 (Bi : Int))) 6 7 rfl (by kernel_rfl) ?_
              refine GoE.take (i := 0) (v := ?_) rfl (by decide) (by kernel_rfl) (by kernel_rfl) (by kernel_rfl) (by kernel_rfl) (fun _ _ _ h => h) (by rfl) ?_ (by assumption) ?_
              rotate_left
              · intro w hSw; (try dsimp only at hSw); go_simp; try (with_reducible rfl)
              try simp only [Act.put, List.setIfInBounds_toArray, List.set_cons_zero, List.set_cons_succ]
              refine GoE.take (i := 1) (v := ?_) rfl (by decide) (by kernel_rfl) (by kernel_rfl) (by kernel_rfl) (by kernel_rfl) (fun _ _ _ h => h) (by rfl) ?_ (by assumption) ?_
              rotate_left
              · intro w hSw; (try dsimp only at hSw); go_simp; try (with_reducible rfl)
              try simp only [Act.put, List.setIfInBounds_toArray, List.set_cons_zero, List.set_cons_succ]
              refine GoE.take (i := 2) (v := ?_) rfl (by decide) (by kernel_rfl) (by kernel_rfl) (by kernel_rfl) (by kernel_rfl) (fun _ _ _ h => h) (by rfl) ?_ (by assumption) ?_
              rotate_left
              · intro w hSw; (try dsimp only at hSw); go_simp; try (with_reducible rfl)
              try simp only [Act.put, List.setIfInBounds_toArray, List.set_cons_zero, List.set_cons_succ]
              refine GoE.take (i := 3) (v := ?_) rfl (by decide) (by kernel_rfl) (by kernel_rfl) (by kernel_rfl) (by kernel_rfl) (fun _ _ _ h => h) (by rfl) ?_ (by assumption) ?_
              rotate_left
              · intro w hSw; (try dsimp only at hSw); go_simp; try (with_reducible rfl)
              try simp only [Act.put, List.setIfInBounds_toArray, List.set_cons_zero, List.set_cons_succ]
              refine GoE.one (i := 4) rfl (by kernel_rfl) (fun K hK => ?_)
              go_simp
              go_at_call 24
              (with_reducible refine (kd0).mono ?_)
              rintro e4 w4 ⟨v, rfl, h4⟩; have S4 := Hc.out _ _ (h4.pull 1 : SatL _ (cl ab _ _ :: _)); have kf1 := kf.out _ _ _ (h4.bring [2, 0, 1, 3, 4, 5])
              go_wp2_with fail
              refine hK.out _ _ (fun _ => S4) ?_
              clear hK K
              try simp only [Act.put, List.setIfInBounds_toArray, List.set_cons_zero, List.set_cons_succ]
              refine GoE.one (i := 5) rfl (by kernel_rfl) (fun K hK => ?_)
              go_simp
              go_at_call 11
              (with_reducible refine (kf1).mono ?_)
              rintro e5 w5 ⟨v5, rfl, rfl, h5⟩; have S5 := Hc.out _ _ (h5.pull 2 : SatL _ (cl ab _ _ :: _))
              go_wp2_with fail
              refine hK.out _ _ (fun _ => S5) ?_
              clear hK K
              try simp only [Act.put, List.setIfInBounds_toArray, List.set_cons_zero, List.set_cons_succ]
              refine GoE.one (i := 6) rfl (by kernel_rfl) (fun K hK => ?_)
              go_simp
              refine hK.out _ _ (fun h => absurd rfl h) ?_
              clear hK K
              try simp only [Act.put, List.setIfInBounds_toArray, List.set_cons_zero, List.set_cons_succ]
              refine GoE.done (by kernel_rfl) ?_
              have h6 := SatL.tail (h5.bring [1, 2, 0, 3, 4, 5])
              clear h4 h5 S0 S4 S5 kd0 kf1
              have H6 := hid h6
              clear h6
              go_wp2_with fail
              go_meet
              exact ⟨bs, h, d, q, s, HI.out.mono (by omega), H6.out⟩
            · have HI2 := hid hI'
              clear hI'
              go_upto_region 18 with fail
              refine GoE.start (fun w' => w'.cell? ⟨ab, 0, none⟩ = some (.int .i64 kdi) ∧ w'.cell? ⟨ab, 1, none⟩ = some (.int .i64 (k : Nat)) ∧ w'.cell? ⟨ab, 2, none⟩ = some (.int .i64 0) ∧ w'.cell? ⟨ab, 3, none⟩ = some (.int .u8 (Bi : Int))) 6 7 rfl (by kernel_rfl) ?_
              refine GoE.take (i := 0) (v := ?_) rfl (by decide) (by kernel_rfl) (by kernel_rfl) (by kernel_rfl) (by kernel_rfl) (fun _ _ _ h => h) (by rfl) ?_ (by assumption) ?_
              rotate_left
              · intro w hSw; (try dsimp only at hSw); go_simp; try (with_reducible rfl)
              try simp only [Act.put, List.setIfInBounds_toArray, List.set_cons_zero, List.set_cons_succ]
              refine GoE.take (i := 1) (v := ?_) rfl (by decide) (by kernel_rfl) (by kernel_rfl) (by kernel_rfl) (by kernel_rfl) (fun _ _ _ h => h) (by rfl) ?_ (by assumption) ?_
              rotate_left
              · intro w hSw; (try dsimp only at hSw); go_simp; try (with_reducible rfl)
              try simp only [Act.put, List.setIfInBounds_toArray, List.set_cons_zero, List.set_cons_succ]
              refine GoE.take (i := 2) (v := ?_) rfl (by decide) (by kernel_rfl) (by kernel_rfl) (by kernel_rfl) (by kernel_rfl) (fun _ _ _ h => h) (by rfl) ?_ (by assumption) ?_
              rotate_left
              · intro w hSw; (try dsimp only at hSw); go_simp; try (with_reducible rfl)
              try simp only [Act.put, List.setIfInBounds_toArray, List.set_cons_zero, List.set_cons_succ]
              refine GoE.take (i := 3) (v := ?_) rfl (by decide) (by kernel_rfl) (by kernel_rfl) (by kernel_rfl) (by kernel_rfl) (fun _ _ _ h => h) (by rfl) ?_ (by assumption) ?_
              rotate_left
              · intro w hSw; (try dsimp only at hSw); go_simp; try (with_reducible rfl)
              try simp only [Act.put, List.setIfInBounds_toArray, List.set_cons_zero, List.set_cons_succ]
              refine GoE.one (i := 4) rfl (by kernel_rfl) (fun K hK => ?_)
              go_simp
              go_at_call 24
              (with_reducible refine (kd0).mono ?_)
              rintro e4 w4 ⟨v, rfl, h4⟩; have S4 := Hc.out _ _ (h4.pull 1 : SatL _ (cl ab _ _ :: _)); have kf1 := kf.out _ _ _ (h4.bring [2, 0, 1, 3, 4, 5])
              go_wp2_with fail
              refine hK.out _ _ (fun _ => S4) ?_
              clear hK K
              try simp only [Act.put, List.setIfInBounds_toArray, List.set_cons_zero, List.set_cons_succ]
              refine GoE.one (i := 5) rfl (by kernel_rfl) (fun K hK => ?_)
              go_simp
              go_at_call 11
              (with_reducible refine (kf1).mono ?_)
              rintro e5 w5 ⟨v5, rfl, rfl, h5⟩; have S5 := Hc.out _ _ (h5.pull 2 : SatL _ (cl ab _ _ :: _))
              go_wp2_with fail
              refine hK.out _ _ (fun _ => S5) ?_
              clear hK K
              try simp only [Act.put, List.setIfInBounds_toArray, List.set_cons_zero, List.set_cons_succ]
              refine GoE.one (i := 6) rfl (by kernel_rfl) (fun K hK => ?_)
              go_simp
              refine hK.out _ _ (fun h => absurd rfl h) ?_
              clear hK K
              try simp only [Act.put, List.setIfInBounds_toArray, List.set_cons_zero, List.set_cons_succ]
              refine GoE.done (by kernel_rfl) ?_
              have h6 := SatL.tail (h5.bring [1, 2, 0, 3, 4, 5])
              clear h4 h5 S0 S4 S5 kd0 kf1
              go_upto_region 19 with fail
              have hs1 := sat_drew.2 h6
              have S0 := Hc.out _ _ hs1
              have kd0 := hdat.out _ _ hs1
              obtain ⟨sb, hsb⟩ : ∃ sb : ByteArray, sb = ⟨D.toArray⟩ := ⟨_, rfl⟩
              have hset := hid (fun (w' : World) (X : List HP) (h : SatL w' (Sl 9 (s16 lb) (sv s) :: X)) => (⟨by have := Sl.set h (i := k) (by unfold sv; rw [fv16_len]; exact hk16) (.string ⟨D.toArray⟩); rw [Nat.zero_add, sv_set, ← hsb] at this; exact this, by have := Sl.free h (0 + k); rwa [Nat.zero_add] at this, ⟨_, by have := Sl.cell h (fv16_get _ hk16); rwa [Nat.zero_add] at this⟩⟩ : SatL (w'.setCell ⟨lb, k, none⟩ (.string sb)) (Sl 9 (s16 lb) (sv (fput s k D)) :: X) ∧ w'.frozen? ⟨lb, k, none⟩ = false ∧ ∃ u, w'.cell? ⟨lb, k, none⟩ = some u))
              have hcv := hid (fun (w' : World) (v : Value) (X : List HP) (h : SatL w' (SlB 5 v D :: X)) => (by rw [hsb]; exact RdB.conv (SlB.rd h) : (convert 29 9 v).run Try.prog w' = .ok (.string sb) w'))
              clear hs1 h6 hsb
              refine GoE.start (fun w' => w'.cell? ⟨ab, 0, none⟩ = some (.int .i64 kdi) ∧ w'.cell? ⟨ab, 1, none⟩ = some (.int .i64 (k : Nat)) ∧ w'.cell? ⟨ab, 2, none⟩ = some (.int .i64 0) ∧ w'.cell? ⟨ab, 3, none⟩ = some (.int .u8 (Bi : Int))) 7 8 rfl (by kernel_rfl) ?_
              refine GoE.take (i := 0) (v := ?_) rfl (by decide) (by kernel_rfl) (by kernel_rfl) (by kernel_rfl) (by kernel_rfl) (fun _ _ _ h => h) (by rfl) ?_ (by assumption) ?_
              rotate_left
              · intro w hSw; (try dsimp only at hSw); go_simp; try (with_reducible rfl)
              try simp only [Act.put, List.setIfInBounds_toArray, List.set_cons_zero, List.set_cons_succ]
              refine GoE.take (i := 1) (v := ?_) rfl (by decide) (by kernel_rfl) (by kernel_rfl) (by kernel_rfl) (by kernel_rfl) (fun _ _ _ h => h) (by rfl) ?_ (by assumption) ?_
              rotate_left
              · intro w hSw; (try dsimp only at hSw); go_simp; try (with_reducible rfl)
              try simp only [Act.put, List.setIfInBounds_toArray, List.set_cons_zero, List.set_cons_succ]
              refine GoE.take (i := 2) (v := ?_) rfl (by decide) (by kernel_rfl) (by kernel_rfl) (by kernel_rfl) (by kernel_rfl) (fun _ _ _ h => h) (by rfl) ?_ (by assumption) ?_
              rotate_left
              · intro w hSw; (try dsimp only at hSw); go_simp; try (with_reducible rfl)
              try simp only [Act.put, List.setIfInBounds_toArray, List.set_cons_zero, List.set_cons_succ]
              refine GoE.take (i := 3) (v := ?_) rfl (by decide) (by kernel_rfl) (by kernel_rfl) (by kernel_rfl) (by kernel_rfl) (fun _ _ _ h => h) (by rfl) ?_ (by assumption) ?_
              rotate_left
              · intro w hSw; (try dsimp only at hSw); go_simp; try (with_reducible rfl)
              try simp only [Act.put, List.setIfInBounds_toArray, List.set_cons_zero, List.set_cons_succ]
              refine GoE.one (i := 4) rfl (by kernel_rfl) (fun K hK => ?_)
              go_simp
              go_at_call 24
              (with_reducible refine (kd0).mono ?_)
              rintro e4 w4 ⟨v, rfl, h4⟩; have S4 := Hc.out _ _ (h4.pull 1 : SatL _ (cl ab _ _ :: _))
              go_wp2_with fail
              refine hK.out _ _ (fun _ => S4) ?_
              clear hK K
              try simp only [Act.put, List.setIfInBounds_toArray, List.set_cons_zero, List.set_cons_succ]
              refine GoE.more (fun w' => (convert 29 9 v).run Try.prog w' = .ok (.string sb) w' ∧ w'.cell? ⟨ab, 0, none⟩ = some (.int .i64 kdi) ∧ w'.cell? ⟨ab, 1, none⟩ = some (.int .i64 (k : Nat)) ∧ w'.cell? ⟨ab, 2, none⟩ = some (.int .i64 0) ∧ w'.cell? ⟨ab, 3, none⟩ = some (.int .u8 (Bi : Int))) (fun w h => h.2) ?_
              have S6 := And.intro (hcv.out _ _ _ h4) S4
              obtain ⟨h5, f5, u5, c5⟩ := hset.out _ _ (h4.pull 3)
              clear S4 S0
              refine GoE.take (i := 5) (v := ?_) rfl (by decide) (by kernel_rfl) (by kernel_rfl) (by kernel_rfl) (by kernel_rfl) (fun _ _ _ h => h) (by rfl) ?_ (by assumption) ?_
              rotate_left
              · intro w hSw; (try dsimp only at hSw); go_simp; try (with_reducible rfl)
              try simp only [Act.put, List.setIfInBounds_toArray, List.set_cons_zero, List.set_cons_succ]
              refine GoE.take (i := 6) (v := ?_) rfl (by decide) (by kernel_rfl) (by kernel_rfl) (by kernel_rfl) (by kernel_rfl) (fun _ _ _ h => h) (by rfl) ?_ (by assumption) ?_
              rotate_left
              · intro w hSw; (try dsimp only at hSw); go_simp; try (with_reducible rfl)
              try simp only [Act.put, List.setIfInBounds_toArray, List.set_cons_zero, List.set_cons_succ]
              refine GoE.one (i := 7) rfl (by kernel_rfl) (fun K hK => ?_)
              go_simp
              refine hK.out _ _ (fun h => absurd rfl h) ?_
              clear hK K
              try simp only [Act.put, List.setIfInBounds_toArray, List.set_cons_zero, List.set_cons_succ]
              refine GoE.done (by kernel_rfl) ?_
              clear S6 f5 c5 hset hcv kd0 h4
              have h6 := SatL.tail (h5.bring [1, 2, 3, 0, 4, 5])
              have H6 := hid h6
              clear h5 h6
              go_wp2_with fail
              go_meet
              exact ⟨bs', h', d, q, fput s k D, HI2.out.mono (by omega), H6.out⟩
        case false =>
        cases hb3 : (kdi == 3)
        case true =>
          as_aux_lemma =>
            have kf := hid (fun (w' : World) (v : Value) (X : List HP) (h : SatL w' (CacheA pb (n : Int) bs :: Sl 5 v (bvs D) :: X)) => put_A (k := (k : Int)) h Hbo.out (by omega) (bvs_one D) (by rw [bvs_len]; omega))
            have hcase := HI.out.put hk16 hDl
            generalize bput (n : Int) bs (k : Int) (bvs D) = R at *
            have hs1 := sat_drew.2 H3.out
            have S0 := Hc.out _ _ hs1
            have kd0 := hdat.out _ _ hs1
            clear hs1
            rcases hcase with ⟨e, he, rfl⟩ | ⟨bs', h', rfl, hI'⟩
            · have he2 : (e == 0) = false := by simpa using he
              clear he
              go_upto_region 21 with fail
              refine GoE.start (fun w' => w'.cell? ⟨ab, 0, none⟩ = some (.int .i64 kdi) ∧ w'.cell? ⟨ab, 1, none⟩ = some (.int .i64 (k : Nat)) ∧ w'.cell? ⟨ab, 2, none⟩ = some (.int .i64 0) ∧ w'.cell? ⟨ab, 3, none⟩ = some (.int .u8 (Bi : Int))) 6 7 rfl (by kernel_rfl) ?_
              refine GoE.take (i := 0) (v := ?_) rfl (by decide) (by kernel_rfl) (by kernel_rfl) (by kernel_rfl) (by kernel_rfl) (fun _ _ _ h => h) (by rfl) ?_ (by assumption) ?_
              rotate_left
              · intro w hSw; (try dsimp only at hSw); go_simp; try (with_reducible rfl)
              try simp only [Act.put, List.setIfInBounds_toArray, List.set_cons_zero, List.set_cons_succ]
              refine GoE.take (i := 1) (v := ?_) rfl (by decide) (by kernel_rfl) (by kernel_rfl) (by kernel_rfl) (by kernel_rfl) (fun _ _ _ h => h) (by rfl) ?_ (by assumption) ?_
              rotate_left
              · intro w hSw; (try dsimp only at hSw); go_simp; try (with_reducible rfl)
              try simp only [Act.put, List.setIfInBounds_toArray, List.set_cons_zero, List.set_cons_succ]
              refine GoE.take (i := 2) (v := ?_) rfl (by decide) (by kernel_rfl) (by kernel_rfl) (by kernel_rfl) (by kernel_rfl) (fun _ _ _ h => h) (by rfl) ?_ (by assumption) ?_
              rotate_left
              · intro w hSw; (try dsimp only at hSw); go_simp; try (with_reducible rfl)
              try simp only [Act.put, List.setIfInBounds_toArray, List.set_cons_zero, List.set_cons_succ]
              refine GoE.take (i := 3) (v := ?_) rfl (by decide) (by kernel_rfl) (by kernel_rfl) (by kernel_rfl) (by kernel_rfl) (fun _ _ _ h => h) (by rfl) ?_ (by assumption) ?_
              rotate_left
              · intro w hSw; (try dsimp only at hSw); go_simp; try (with_reducible rfl)
              try simp only [Act.put, List.setIfInBounds_toArray, List.set_cons_zero, List.set_cons_succ]
              refine GoE.one (i := 4) rfl (by kernel_rfl) (fun K hK => ?_)
              go_simp
              go_at_call 24
              (with_reducible refine (kd0).mono ?_)
              rintro e4 w4 ⟨v, rfl, h4⟩; have S4 := Hc.out _ _ (h4.pull 1 : SatL _ (cl ab _ _ :: _)); have kf1 := kf.out _ _ _ (h4.bring [2, 0, 1, 3, 4, 5])
              go_wp2_with fail
              refine hK.out _ _ (fun _ => S4) ?_
              clear hK K
              try simp only [Act.put, List.setIfInBounds_toArray, List.set_cons_zero, List.set_cons_succ]
              refine GoE.one (i := 5) rfl (by kernel_rfl) (fun K hK => ?_)
              go_simp
              go_at_call 14
              (with_reducible refine (kf1).mono ?_)
              rintro e5 w5 ⟨v5, rfl, rfl, h5⟩; have S5 := Hc.out _ _ (h5.pull 2 : SatL _ (cl ab _ _ :: _))
              go_wp2_with fail
              refine hK.out _ _ (fun _ => S5) ?_
              clear hK K
              try simp only [Act.put, List.setIfInBounds_toArray, List.set_cons_zero, List.set_cons_succ]
              refine GoE.one (i := 6) rfl (by kernel_rfl) (fun K hK => ?_)
              go_simp
              refine hK.out _ _ (fun h => absurd rfl h) ?_
              clear hK K
              try simp only [Act.put, List.setIfInBounds_toArray, List.set_cons_zero, List.set_cons_succ]
              refine GoE.done (by kernel_rfl) ?_
              have h6 := SatL.tail (h5.bring [1, 2, 0, 3, 4, 5])
              clear h4 h5 S0 S4 S5 kd0 kf1
              have H6 := hid h6
              clear h6
              go_wp2_with fail
              go_meet
              exact ⟨bs, h, d, q, s, HI.out.mono (by omega), H6.out⟩
            · have HI2 := hid hI'
              clear hI'
              go_upto_region 21 with fail
              refine GoE.start (fun w' => w'.cell? ⟨ab, 0, none⟩ = some (.int .i64 kdi) ∧ w'.cell? ⟨ab, 1, none⟩ = some (.int .i64 (k : Nat)) ∧ w'.cell? ⟨ab, 2, none⟩ = some (.int .i64 0) ∧ w'.cell? ⟨ab, 3, none⟩ = some (.int .u8 (Bi : Int))) 6 7 rfl (by kernel_rfl) ?_
              refine GoE.take (i := 0) (v := ?_) rfl (by decide) (by kernel_rfl) (by kernel_rfl) (by kernel_rfl) (by kernel_rfl) (fun _ _ _ h => h) (by rfl) ?_ (by assumption) ?_
              rotate_left
              · intro w hSw; (try dsimp only at hSw); go_simp; try (with_reducible rfl)
              try simp only [Act.put, List.setIfInBounds_toArray, List.set_cons_zero, List.set_cons_succ]
              refine GoE.take (i := 1) (v := ?_) rfl (by decide) (by kernel_rfl) (by kernel_rfl) (by kernel_rfl) (by kernel_rfl) (fun _ _ _ h => h) (by rfl) ?_ (by assumption) ?_
              rotate_left
              · intro w hSw; (try dsimp only at hSw); go_simp; try (with_reducible rfl)
              try simp only [Act.put, List.setIfInBounds_toArray, List.set_cons_zero, List.set_cons_succ]
              refine GoE.take (i := 2) (v := ?_) rfl (by decide) (by kernel_rfl) (by kernel_rfl) (by kernel_rfl) (by kernel_rfl) (fun _ _ _ h => h) (by rfl) ?_ (by assumption) ?_
              rotate_left
              · intro w hSw; (try dsimp only at hSw); go_simp; try (with_reducible rfl)
              try simp only [Act.put, List.setIfInBounds_toArray, List.set_cons_zero, List.set_cons_succ]
              refine GoE.take (i := 3) (v := ?_) rfl (by decide) (by kernel_rfl) (by kernel_rfl) (by kernel_rfl) (by kernel_rfl) (fun _ _ _ h => h) (by rfl) ?_ (by assumption) ?_
              rotate_left
              · intro w hSw; (try dsimp only at hSw); go_simp; try (with_reducible rfl)
              try simp only [Act.put, List.setIfInBounds_toArray, List.set_cons_zero, List.set_cons_succ]
              refine GoE.one (i := 4) rfl (by kernel_rfl) (fun K hK => ?_)
              go_simp
              go_at_call 24
              (with_reducible refine (kd0).mono ?_)
              rintro e4 w4 ⟨v, rfl, h4⟩; have S4 := Hc.out _ _ (h4.pull 1 : SatL _ (cl ab _ _ :: _)); have kf1 := kf.out _ _ _ (h4.bring [2, 0, 1, 3, 4, 5])
              go_wp2_with fail
              refine hK.out _ _ (fun _ => S4) ?_
              clear hK K
              try simp only [Act.put, List.setIfInBounds_toArray, List.set_cons_zero, List.set_cons_succ]
              refine GoE.one (i := 5) rfl (by kernel_rfl) (fun K hK => ?_)
              go_simp
              go_at_call 14
              (with_reducible refine (kf1).mono ?_)
              rintro e5 w5 ⟨v5, rfl, rfl, h5⟩; have S5 := Hc.out _ _ (h5.pull 2 : SatL _ (cl ab _ _ :: _))
              go_wp2_with fail
              refine hK.out _ _ (fun _ => S5) ?_
              clear hK K
              try simp only [Act.put, List.setIfInBounds_toArray, List.set_cons_zero, List.set_cons_succ]
              refine GoE.one (i := 6) rfl (by kernel_rfl) (fun K hK => ?_)
              go_simp
              refine hK.out _ _ (fun h => absurd rfl h) ?_
              clear hK K
              try simp only [Act.put, List.setIfInBounds_toArray, List.set_cons_zero, List.set_cons_succ]
              refine GoE.done (by kernel_rfl) ?_
              have h6 := SatL.tail (h5.bring [1, 2, 0, 3, 4, 5])
              clear h4 h5 S0 S4 S5 kd0 kf1
              go_upto_region 22 with fail
              have hs1 := sat_drew.2 h6
              have S0 := Hc.out _ _ hs1
              have kd0 := hdat.out _ _ hs1
              obtain ⟨sb, hsb⟩ : ∃ sb : ByteArray, sb = ⟨D.toArray⟩ := ⟨_, rfl⟩
              have hset := hid (fun (w' : World) (X : List HP) (h : SatL w' (Sl 9 (s16 lb) (sv s) :: X)) => (⟨by have := Sl.set h (i := k) (by unfold sv; rw [fv16_len]; exact hk16) (.string ⟨D.toArray⟩); rw [Nat.zero_add, sv_set, ← hsb] at this; exact this, by have := Sl.free h (0 + k); rwa [Nat.zero_add] at this, ⟨_, by have := Sl.cell h (fv16_get _ hk16); rwa [Nat.zero_add] at this⟩⟩ : SatL (w'.setCell ⟨lb, k, none⟩ (.string sb)) (Sl 9 (s16 lb) (sv (fput s k D)) :: X) ∧ w'.frozen? ⟨lb, k, none⟩ = false ∧ ∃ u, w'.cell? ⟨lb, k, none⟩ = some u))
              have hcv := hid (fun (w' : World) (v : Value) (X : List HP) (h : SatL w' (SlB 5 v D :: X)) => (by rw [hsb]; exact RdB.conv (SlB.rd h) : (convert 29 9 v).run Try.prog w' = .ok (.string sb) w'))
              clear hs1 h6 hsb
              refine GoE.start (fun w' => w'.cell? ⟨ab, 0, none⟩ = some (.int .i64 kdi) ∧ w'.cell? ⟨ab, 1, none⟩ = some (.int .i64 (k : Nat)) ∧ w'.cell? ⟨ab, 2, none⟩ = some (.int .i64 0) ∧ w'.cell? ⟨ab, 3, none⟩ = some (.int .u8 (Bi : Int))) 7 8 rfl (by kernel_rfl) ?_
              refine GoE.take (i := 0) (v := ?_) rfl (by decide) (by kernel_rfl) (by kernel_rfl) (by kernel_rfl) (by kernel_rfl) (fun _ _ _ h => h) (by rfl) ?_ (by assumption) ?_
              rotate_left
              · intro w hSw; (try dsimp only at hSw); go_simp; try (with_reducible rfl)
              try simp only [Act.put, List.setIfInBounds_toArray, List.set_cons_zero, List.set_cons_succ]
              refine GoE.take (i := 1) (v := ?_) rfl (by decide) (by kernel_rfl) (by kernel_rfl) (by kernel_rfl) (by kernel_rfl) (fun _ _ _ h => h) (by rfl) ?_ (by assumption) ?_
              rotate_left
              · intro w hSw; (try dsimp only at hSw); go_simp; try (with_reducible rfl)
              try simp only [Act.put, List.setIfInBounds_toArray, List.set_cons_zero, List.set_cons_succ]
              refine GoE.take (i := 2) (v := ?_) rfl (by decide) (by kernel_rfl) (by kernel_rfl) (by kernel_rfl) (by kernel_rfl) (fun _ _ _ h => h) (by rfl) ?_ (by assumption) ?_
              rotate_left
              · intro w hSw; (try dsimp only at hSw); go_simp; try (with_reducible rfl)
              try simp only [Act.put, List.setIfInBounds_toArray, List.set_cons_zero, List.set_cons_succ]
              refine GoE.take (i := 3) (v := ?_) rfl (by decide) (by kernel_rfl) (by kernel_rfl) (by kernel_rfl) (by kernel_rfl) (fun _ _ _ h => h) (by rfl) ?_ (by assumption) ?_
              rotate_left
              · intro w hSw; (try dsimp only at hSw); go_simp; try (with_reducible rfl)
              try simp only [Act.put, List.setIfInBounds_toArray, List.set_cons_zero, List.set_cons_succ]
              refine GoE.one (i := 4) rfl (by kernel_rfl) (fun K hK => ?_)
              go_simp
              go_at_call 24
              (with_reducible refine (kd0).mono ?_)
              rintro e4 w4 ⟨v, rfl, h4⟩; have S4 := Hc.out _ _ (h4.pull 1 : SatL _ (cl ab _ _ :: _))
              go_wp2_with fail
              refine hK.out _ _ (fun _ => S4) ?_
              clear hK K
              try simp only [Act.put, List.setIfInBounds_toArray, List.set_cons_zero, List.set_cons_succ]
              refine GoE.more (fun w' => (convert 29 9 v).run Try.prog w' = .ok (.string sb) w' ∧ w'.cell? ⟨ab, 0, none⟩ = some (.int .i64 kdi) ∧ w'.cell? ⟨ab, 1, none⟩ = some (.int .i64 (k : Nat)) ∧ w'.cell? ⟨ab, 2, none⟩ = some (.int .i64 0) ∧ w'.cell? ⟨ab, 3, none⟩ = some (.int .u8 (Bi : Int))) (fun w h => h.2) ?_
              have S6 := And.intro (hcv.out _ _ _ h4) S4
              obtain ⟨h5, f5, u5, c5⟩ := hset.out _ _ (h4.pull 3)
              clear S4 S0
              refine GoE.take (i := 5) (v := ?_) rfl (by decide) (by kernel_rfl) (by kernel_rfl) (by kernel_rfl) (by kernel_rfl) (fun _ _ _ h => h) (by rfl) ?_ (by assumption) ?_
              rotate_left
              · intro w hSw; (try dsimp only at hSw); go_simp; try (with_reducible rfl)
              try simp only [Act.put, List.setIfInBounds_toArray, List.set_cons_zero, List.set_cons_succ]
              refine GoE.take (i := 6) (v := ?_) rfl (by decide) (by kernel_rfl) (by kernel_rfl) (by kernel_rfl) (by kernel_rfl) (fun _ _ _ h => h) (by rfl) ?_ (by assumption) ?_
              rotate_left
              · intro w hSw; (try dsimp only at hSw); go_simp; try (with_reducible rfl)
              try simp only [Act.put, List.setIfInBounds_toArray, List.set_cons_zero, List.set_cons_succ]
              refine GoE.one (i := 7) rfl (by kernel_rfl) (fun K hK => ?_)
              go_simp
              refine hK.out _ _ (fun h => absurd rfl h) ?_
              clear hK K
              try simp only [Act.put, List.setIfInBounds_toArray, List.set_cons_zero, List.set_cons_succ]
              refine GoE.done (by kernel_rfl) ?_
              clear S6 f5 c5 hset hcv kd0 h4
              have h6 := SatL.tail (h5.bring [1, 4, 2, 3, 0, 5])
              have d1 := (Hc.out _ _ (h6.pull 1 : SatL _ (cl ab _ _ :: _))).2.1
              have f6 := Sl.free (h6 : SatL _ (Sl _ _ _ :: _)) (0 + k)
              obtain ⟨u6, c6⟩ : ∃ u, _ = some u := ⟨_, Sl.cell (h6 : SatL _ (Sl _ _ _ :: _)) (fv16_get _ hk16)⟩
              have h7 := Sl.set (h6 : SatL _ (Sl _ _ _ :: _)) (i := k) (by unfold dv; rw [fv16_len]; exact hk16) (.bool true)
              rw [Nat.zero_add] at f6 c6 h7
              rw [dv_set] at h7
              have H7 := hid (h7.bring [1, 2, 3, 0, 4])
              clear h5 h6 h7
              go_wp2_with fail
              go_meet
              exact ⟨bs', h', fput d k true, q, fput s k D, HI2.out.mono (by omega), H7.out⟩
        case false =>
        cases hb4 : (kdi == 4)
        case true =>
          as_aux_lemma =>
            have kf := pin_A (k := (k : Int)) (H3.out.pull 1 : SatL w3 (CacheA _ _ _ :: _)) Hpo.out
            have hcase := HI.out.pin hk16
            generalize bpin bs (k : Int) = R at *
            have cA := (Hc.out _ _ H3.out)
            obtain ⟨c0, c1, c2, c3⟩ := cA
            rcases hcase with ⟨e, he, rfl⟩ | ⟨bs', rfl, hI'⟩
            · have he2 : (e == 0) = false := by simpa using he
              clear he
              go_wp2_with (go_at_call 13; (with_reducible refine kf.mono ?_); rintro e5 w5 ⟨v5, rfl, rfl, h5⟩; obtain ⟨x0, x1, x2, x3⟩ := Hc.out _ _ (h5.pull 1 : SatL _ (cl ab _ _ :: _)))
              go_meet
              exact ⟨bs, h, d, q, s, HI.out.mono (by omega), SatL.swap h5⟩
            · have hq := (HI.out.pins k)
              have hq1 : 0 ≤ q k ∧ q k ≤ 1000 := by omega
              have HI2 := hid hI'
              clear hI' hq
              go_wp2_with (go_at_call 13; (with_reducible refine kf.mono ?_); rintro e5 w5 ⟨v5, rfl, rfl, h5⟩; obtain ⟨x0, x1, x2, x3⟩ := Hc.out _ _ (h5.pull 1 : SatL _ (cl ab _ _ :: _)); have h6 := Sl.set (h5.pull 4 : SatL _ (Sl _ _ _ :: _)) (i := k) (by unfold qv; rw [fv16_len]; exact H16.out) (.int .i64 (q k + 1)); have f6 := Sl.free (h5.pull 4 : SatL _ (Sl _ _ _ :: _)) (0 + k); have c6 := Sl.cell (h5.pull 4 : SatL _ (Sl _ _ _ :: _)) (fv16_get _ H16.out); rw [Nat.zero_add] at h6 f6 c6; rw [qv_set] at h6)
              go_meet
              exact ⟨bs', h, d, fput q k (q k + 1), s, HI2.out, h6.bring [2, 1, 3, 4, 0]⟩
        case false =>
        cases hb5 : (kdi == 5)
        case true =>
          as_aux_lemma =>
            have kf := unpin_A (k := (k : Int)) (H3.out.pull 1 : SatL w3 (CacheA _ _ _ :: _)) Hpo.out
            have hcase := HI.out.unpin hk16
            generalize bunpin bs (k : Int) = R at *
            have cA := (Hc.out _ _ H3.out)
            obtain ⟨c0, c1, c2, c3⟩ := cA
            rcases hcase with ⟨e, he, rfl⟩ | ⟨bs', rfl, hqk, hI'⟩
            · have he2 : (e == 0) = false := by simpa using he
              clear he
              go_wp2_with (go_at_call 16; (with_reducible refine kf.mono ?_); rintro e5 w5 ⟨v5, rfl, rfl, h5⟩; obtain ⟨x0, x1, x2, x3⟩ := Hc.out _ _ (h5.pull 1 : SatL _ (cl ab _ _ :: _)))
              go_meet
              exact ⟨bs, h, d, q, s, HI.out.mono (by omega), SatL.swap h5⟩
            · have hq := (HI.out.pins k)
              have hq1 : 0 ≤ q k ∧ q k ≤ 1000 := by omega
              have HI2 := hid hI'
              clear hI' hq
              go_wp2_with (go_at_call 16; (with_reducible refine kf.mono ?_); rintro e5 w5 ⟨v5, rfl, rfl, h5⟩; obtain ⟨x0, x1, x2, x3⟩ := Hc.out _ _ (h5.pull 1 : SatL _ (cl ab _ _ :: _)); have h6 := Sl.set (h5.pull 4 : SatL _ (Sl _ _ _ :: _)) (i := k) (by unfold qv; rw [fv16_len]; exact H16.out) (.int .i64 (q k - 1)); have f6 := Sl.free (h5.pull 4 : SatL _ (Sl _ _ _ :: _)) (0 + k); have c6 := Sl.cell (h5.pull 4 : SatL _ (Sl _ _ _ :: _)) (fv16_get _ H16.out); rw [Nat.zero_add] at h6 f6 c6; rw [qv_set] at h6)
              go_meet
              exact ⟨bs', h, d, fput q k (q k - 1), s, HI2.out.mono (by omega), h6.bring [2, 1, 3, 4, 0]⟩
        case false =>
        cases hb6 : (kdi == 6)
        case true =>
          as_aux_lemma =>
            have kf := clean_A (k := (k : Int)) (H3.out.pull 1 : SatL w3 (CacheA _ _ _ :: _))
            have hcase := HI.out.clean hk16
            generalize bclean bs (k : Int) = R at *
            have cA := (Hc.out _ _ H3.out)
            obtain ⟨c0, c1, c2, c3⟩ := cA
            rcases hcase with ⟨e, he, rfl⟩ | ⟨bs', rfl, hI'⟩
            · have he2 : (e == 0) = false := by simpa using he
              clear he
              go_wp2_with (go_at_call 17; (with_reducible refine kf.mono ?_); rintro e5 w5 ⟨v5, rfl, rfl, h5⟩; obtain ⟨x0, x1, x2, x3⟩ := Hc.out _ _ (h5.pull 1 : SatL _ (cl ab _ _ :: _)))
              go_meet
              exact ⟨bs, h, d, q, s, HI.out.mono (by omega), SatL.swap h5⟩
            · have HI2 := hid hI'
              clear hI'
              go_wp2_with (go_at_call 17; (with_reducible refine kf.mono ?_); rintro e5 w5 ⟨v5, rfl, rfl, h5⟩; obtain ⟨x0, x1, x2, x3⟩ := Hc.out _ _ (h5.pull 1 : SatL _ (cl ab _ _ :: _)); have h6 := Sl.set (h5.pull 3 : SatL _ (Sl _ _ _ :: _)) (i := k) (by unfold dv; rw [fv16_len]; exact H16.out) (.bool false); have f6 := Sl.free (h5.pull 3 : SatL _ (Sl _ _ _ :: _)) (0 + k); have c6 := Sl.cell (h5.pull 3 : SatL _ (Sl _ _ _ :: _)) (fv16_get _ H16.out); rw [Nat.zero_add] at h6 f6 c6; rw [dv_set] at h6)
              go_meet
              exact ⟨bs', h, fput d k false, q, s, HI2.out.mono (by omega), h6.bring [2, 1, 3, 0, 4]⟩
        case false =>
        cases hb7 : (kdi == 7)
        case true =>
          as_aux_lemma =>
            have kf := drop_A (k := (k : Int)) (H3.out.pull 1 : SatL w3 (CacheA _ _ _ :: _))
            have hcase := HI.out.drop hk16
            generalize bdrop bs (k : Int) = R at *
            have cA := (Hc.out _ _ H3.out)
            obtain ⟨c0, c1, c2, c3⟩ := cA
            rcases hcase with ⟨e, he, rfl⟩ | ⟨bs', h', rfl, hd0, hq0, hI'⟩
            · have he2 : (e == 0) = false := by simpa using he
              clear he
              go_wp2_with (go_at_call 15; (with_reducible refine kf.mono ?_); rintro e5 w5 ⟨v5, rfl, rfl, h5⟩; obtain ⟨x0, x1, x2, x3⟩ := Hc.out _ _ (h5.pull 1 : SatL _ (cl ab _ _ :: _)))
              go_meet
              exact ⟨bs, h, d, q, s, HI.out.mono (by omega), SatL.swap h5⟩
            · have HI2 := hid hI'
              clear hI'
              go_wp2_with (go_at_call 15; (with_reducible refine kf.mono ?_); rintro e5 w5 ⟨v5, rfl, rfl, h5⟩; obtain ⟨x0, x1, x2, x3⟩ := Hc.out _ _ (h5.pull 1 : SatL _ (cl ab _ _ :: _)); have c6 := Sl.cell (h5.pull 3 : SatL _ (Sl _ _ _ :: _)) (fv16_get _ H16.out); have c7 := Sl.cell (h5.pull 4 : SatL _ (Sl _ _ _ :: _)) (fv16_get _ H16.out); rw [Nat.zero_add] at c6 c7; rw [hd0] at c6; rw [hq0] at c7)
              go_meet
              exact ⟨bs', h', d, q, s, HI2.out.mono (by omega), SatL.swap h5⟩
        case false =>
        go_wp2_with fail
        go_meet
        exact ⟨bs, h, d, q, s, HI.out.mono (by omega), H3.out⟩
      case rest =>
      obtain ⟨bs, h, d, q, s, hI, h3⟩ := hcut
      clear HI H3 Hbo Hpo hdat
      have hfew := hI.few
      have kh := held_A (h3.pull 1 : SatL wc (CacheA _ _ _ :: _)) (by omega)
      have hmm : (bs.map fun x => Value.int .i64 x.b) = (bs.map (·.b)).map (Value.int .i64) := by rw [List.map_map]; rfl
      rw [hmm] at kh
      have HI := hid hI
      have hhl : (bs.map (·.b)).length = bs.length := List.length_map _
      obtain ⟨HL, hHL⟩ : ∃ HL, HL = bs.map (·.b) := ⟨_, rfl⟩
      rw [← hHL] at kh hhl
      have Hat := hid (fun (j : Nat) (hj : j < 16) => (by have := HI.out.heldAt hj; rwa [← hHL] at this : (j : Int) ∈ HL ↔ h j = true))
      have hfz : (HL.length : Int) ≤ n := by omega
      have hfz2 : ¬ (n : Int) < HL.length := by omega
      have hfz3 : ¬ n < HL.length := by omega
      clear hI h3 hmm hHL hhl
      go_wp2_with (go_at_call 12; (with_reducible refine kh.mono ?_); rintro e4 w4 ⟨v, rfl, h4⟩; have h4' : SatL w4 (Sl 3 v (HL.map (Value.int .i64)) :: _) := h4; obtain ⟨ha, hc, rfl, ha1, ha2⟩ := Sl.valn h4' (m := HL.length) (List.length_map _))
      have H4 := hid h4'
      clear h4 h4' kh
      go_loopw [15] (fun x wr => ∃ j : Nat, j ≤ 16 ∧ x = .int .i64 j ∧ SatL wr (Sl 3 (.slice ha HL.length hc) (HL.map (Value.int .i64)) :: CacheA pb (n : Int) bs :: cl ab 44 #[.int .i64 kdi, .int .i64 (k : Nat), .int .i64 0, .int .u8 (Bi : Int)] :: Sl 9 (s16 lb) (sv s) :: Sl 4 (s16 db) (dv d) :: Sl 3 (s16 qb) (qv q) :: [old w])) (fun x _ => 16 - (intOf x).toNat)
      case atStart => exact ⟨0, by omega, rfl, H4.out⟩
      case round =>
        clear H4
        obtain ⟨j, hj, rfl, hs⟩ := hrel
        by_cases hj16 : j < 16
        · have hjz : (j : Int) < 16 := by omega
          obtain ⟨dk, hdk⟩ : ∃ dk, dk = d j := ⟨_, rfl⟩
          obtain ⟨qk, hqk⟩ : ∃ qk, qk = q j := ⟨_, rfl⟩
          have hq0 : 0 ≤ qk := by rw [hqk]; exact (HI.out.pins j).1
          have hdm : decide ((j : Int) ∈ ups (bdirty bs)) = dk := by
            have h1 := HI.out.dirtyAt hj16
            have h2 : ((j : Int) ∈ ups (bdirty bs)) ↔ d j = true := by rw [ups_mem]; exact h1
            rw [hdk]
            cases hd : d j with
            | true => exact decide_eq_true (h2.2 hd)
            | false => exact decide_eq_false (fun h => by rw [h2.1 h] at hd; cases hd)
          have hcel := hid (fun (w' : World) (X Y : List HP) (h1 : SatL w' (Sl 4 (s16 db) (dv d) :: X)) (h2 : SatL w' (Sl 3 (s16 qb) (qv q) :: Y)) => (by
            have c1 := Sl.cell h1 (fv16_get _ hj16)
            have c2 := Sl.cell h2 (fv16_get _ hj16)
            rw [Nat.zero_add] at c1 c2
            rw [hdk, hqk]; exact ⟨c1, c2⟩ : w'.cell? ⟨db, j, none⟩ = some (.bool dk) ∧ w'.cell? ⟨qb, j, none⟩ = some (.int .i64 qk)))
          have hs1 := sat_drew.2 hs
          have S0 := hcel.out _ _ _ (hs1.pull 4) (hs1.pull 5)
          have kA := has_ok (c := hc) (n := (j : Int)) hs1 Sl.gives_z
          have hheld : dk = true ∨ 0 < qk → decide ((j : Int) ∈ HL) = true := fun hh => decide_eq_true ((Hat.out j hj16).2 (HI.out.dirtyHeld (by rw [← hdk, ← hqk]; exact hh)))
          have kD := hid (fun (w' : World) (X : List HP) (h : SatL w' (CacheA pb (n : Int) bs :: X)) => dirty_A h (by omega))
          have hHas := hid (fun (w' : World) (a : Option Addr) (c : Nat) (X : List HP) (h : SatL w' (Sl 3 (.slice a (ups (bdirty bs)).length c) ((ups (bdirty bs)).map (Value.int .i64)) :: X)) => (by have := has_ok (c := c) (n := (j : Int)) h Sl.gives_z; rw [hdm] at this; exact this : Calls Try.prog 25 #[.slice a (ups (bdirty bs)).length c, .int .i64 (j : Int)] w' (Ret fun r w'' => r = .bool dk ∧ SatL w'' (Sl 3 (.slice a (ups (bdirty bs)).length c) ((ups (bdirty bs)).map (Value.int .i64)) :: X))))
          have hql : decide (qk < 0) = false := by simp; omega
          have hql2 : ¬ qk < 0 := by omega
          have Hs := hid hs1
          clear hs hs1 hdk hqk hdm
          generalize ups (bdirty bs) = DL at *
          cases dk with
          | true =>
            as_aux_lemma =>
              rw [hheld (.inl rfl)] at kA
              clear hheld hql2
              go_upto_region 44 with fail
              refine GoE.start (fun w' => w'.cell? ⟨db, j, none⟩ = some (.bool true) ∧ w'.cell? ⟨qb, j, none⟩ = some (.int .i64 qk)) 34 35 rfl (by kernel_rfl) ?_
              refine GoE.take (i := 0) (v := ?_) rfl (by decide) (by kernel_rfl) (by kernel_rfl) (by kernel_rfl) (by kernel_rfl) (fun _ _ _ h => h) (by rfl) ?_ (by assumption) ?_
              rotate_left
              · intro w hSw; (try dsimp only at hSw); go_simp; try (with_reducible rfl)
              try simp only [Act.put, List.setIfInBounds_toArray, List.set_cons_zero, List.set_cons_succ]
              refine GoE.take (i := 1) (v := ?_) rfl (by decide) (by kernel_rfl) (by kernel_rfl) (by kernel_rfl) (by kernel_rfl) (fun _ _ _ h => h) (by rfl) ?_ (by assumption) ?_
              rotate_left
              · intro w hSw; (try dsimp only at hSw); go_simp; try (with_reducible rfl)
              try simp only [Act.put, List.setIfInBounds_toArray, List.set_cons_zero, List.set_cons_succ]
              refine GoE.take (i := 2) (v := ?_) rfl (by decide) (by kernel_rfl) (by kernel_rfl) (by kernel_rfl) (by kernel_rfl) (fun _ _ _ h => h) (by rfl) ?_ (by assumption) ?_
              rotate_left
              · intro w hSw; (try dsimp only at hSw); go_simp; try (with_reducible rfl)
              try simp only [Act.put, List.setIfInBounds_toArray, List.set_cons_zero, List.set_cons_succ]
              refine GoE.take (i := 3) (v := ?_) rfl (by decide) (by kernel_rfl) (by kernel_rfl) (by kernel_rfl) (by kernel_rfl) (fun _ _ _ h => h) (by rfl) ?_ (by assumption) ?_
              rotate_left
              · intro w hSw; (try dsimp only at hSw); go_simp; try (with_reducible rfl)
              try simp only [Act.put, List.setIfInBounds_toArray, List.set_cons_zero, List.set_cons_succ]
              refine GoE.take (i := 4) (v := ?_) rfl (by decide) (by kernel_rfl) (by kernel_rfl) (by kernel_rfl) (by kernel_rfl) (fun _ _ _ h => h) (by rfl) ?_ (by assumption) ?_
              rotate_left
              · intro w hSw; (try dsimp only at hSw); go_simp; try (with_reducible rfl)
              try simp only [Act.put, List.setIfInBounds_toArray, List.set_cons_zero, List.set_cons_succ]
              refine GoE.skip (i := 5) rfl (by decide) (by kernel_rfl) (by kernel_rfl) (by kernel_rfl) (by kernel_rfl) (fun _ _ _ h => h) (by rfl) (by assumption) ?_
              try simp only [Act.put, List.setIfInBounds_toArray, List.set_cons_zero, List.set_cons_succ]
              refine GoE.skip (i := 6) rfl (by decide) (by kernel_rfl) (by kernel_rfl) (by kernel_rfl) (by kernel_rfl) (fun _ _ _ h => h) (by rfl) (by assumption) ?_
              try simp only [Act.put, List.setIfInBounds_toArray, List.set_cons_zero, List.set_cons_succ]
              refine GoE.skip (i := 7) rfl (by decide) (by kernel_rfl) (by kernel_rfl) (by kernel_rfl) (by kernel_rfl) (fun _ _ _ h => h) (by rfl) (by assumption) ?_
              try simp only [Act.put, List.setIfInBounds_toArray, List.set_cons_zero, List.set_cons_succ]
              refine GoE.skip (i := 8) rfl (by decide) (by kernel_rfl) (by kernel_rfl) (by kernel_rfl) (by kernel_rfl) (fun _ _ _ h => h) (by rfl) (by assumption) ?_
              try simp only [Act.put, List.setIfInBounds_toArray, List.set_cons_zero, List.set_cons_succ]
              refine GoE.skip (i := 9) rfl (by decide) (by kernel_rfl) (by kernel_rfl) (by kernel_rfl) (by kernel_rfl) (fun _ _ _ h => h) (by rfl) (by assumption) ?_
              try simp only [Act.put, List.setIfInBounds_toArray, List.set_cons_zero, List.set_cons_succ]
              refine GoE.take (i := 10) (v := ?_) rfl (by decide) (by kernel_rfl) (by kernel_rfl) (by kernel_rfl) (by kernel_rfl) (fun _ _ _ h => h) (by rfl) ?_ (by assumption) ?_
              rotate_left
              · intro w hSw; (try dsimp only at hSw); go_simp; try (with_reducible rfl)
              try simp only [Act.put, List.setIfInBounds_toArray, List.set_cons_zero, List.set_cons_succ]
              refine GoE.take (i := 11) (v := ?_) rfl (by decide) (by kernel_rfl) (by kernel_rfl) (by kernel_rfl) (by kernel_rfl) (fun _ _ _ h => h) (by rfl) ?_ (by assumption) ?_
              rotate_left
              · intro w hSw; (try dsimp only at hSw); go_simp; try (with_reducible rfl)
              try simp only [Act.put, List.setIfInBounds_toArray, List.set_cons_zero, List.set_cons_succ]
              refine GoE.take (i := 12) (v := ?_) rfl (by decide) (by kernel_rfl) (by kernel_rfl) (by kernel_rfl) (by kernel_rfl) (fun _ _ _ h => h) (by rfl) ?_ (by assumption) ?_
              rotate_left
              · intro w hSw; (try dsimp only at hSw); go_simp; try (with_reducible rfl)
              try simp only [Act.put, List.setIfInBounds_toArray, List.set_cons_zero, List.set_cons_succ]
              refine GoE.take (i := 13) (v := ?_) rfl (by decide) (by kernel_rfl) (by kernel_rfl) (by kernel_rfl) (by kernel_rfl) (fun _ _ _ h => h) (by rfl) ?_ (by assumption) ?_
              rotate_left
              · intro w hSw; (try dsimp only at hSw); go_simp; try (with_reducible rfl)
              try simp only [Act.put, List.setIfInBounds_toArray, List.set_cons_zero, List.set_cons_succ]
              refine GoE.one (i := 14) rfl (by kernel_rfl) (fun K hK => ?_)
              go_simp
              go_at_call 25
              (with_reducible refine (kA).mono ?_)
              rintro e5 w5 ⟨v5, rfl, rfl, h5⟩; have S5 := hcel.out _ _ _ (h5.pull 4) (h5.pull 5); have kD1 := kD.out _ _ (h5.pull 1)
              go_wp2_with fail
              refine hK.out _ _ (fun _ => S5) ?_
              clear hK K
              try simp only [Act.put, List.setIfInBounds_toArray, List.set_cons_zero, List.set_cons_succ]
              refine GoE.take (i := 15) (v := ?_) rfl (by decide) (by kernel_rfl) (by kernel_rfl) (by kernel_rfl) (by kernel_rfl) (fun _ _ _ h => h) (by rfl) ?_ (by assumption) ?_
              rotate_left
              · intro w hSw; (try dsimp only at hSw); go_simp; try (with_reducible rfl)
              try simp only [Act.put, List.setIfInBounds_toArray, List.set_cons_zero, List.set_cons_succ]
              refine GoE.take (i := 16) (v := ?_) rfl (by decide) (by kernel_rfl) (by kernel_rfl) (by kernel_rfl) (by kernel_rfl) (fun _ _ _ h => h) (by rfl) ?_ (by assumption) ?_
              rotate_left
              · intro w hSw; (try dsimp only at hSw); go_simp; try (with_reducible rfl)
              try simp only [Act.put, List.setIfInBounds_toArray, List.set_cons_zero, List.set_cons_succ]
              refine GoE.take (i := 17) (v := ?_) rfl (by decide) (by kernel_rfl) (by kernel_rfl) (by kernel_rfl) (by kernel_rfl) (fun _ _ _ h => h) (by rfl) ?_ (by assumption) ?_
              rotate_left
              · intro w hSw; (try dsimp only at hSw); go_simp; try (with_reducible rfl)
              try simp only [Act.put, List.setIfInBounds_toArray, List.set_cons_zero, List.set_cons_succ]
              refine GoE.take (i := 18) (v := ?_) rfl (by decide) (by kernel_rfl) (by kernel_rfl) (by kernel_rfl) (by kernel_rfl) (fun _ _ _ h => h) (by rfl) ?_ (by assumption) ?_
              rotate_left
              · intro w hSw; (try dsimp only at hSw); go_simp; try (with_reducible rfl)
              try simp only [Act.put, List.setIfInBounds_toArray, List.set_cons_zero, List.set_cons_succ]
              refine GoE.take (i := 19) (v := ?_) rfl (by decide) (by kernel_rfl) (by kernel_rfl) (by kernel_rfl) (by kernel_rfl) (fun _ _ _ h => h) (by rfl) ?_ (by assumption) ?_
              rotate_left
              · intro w hSw; (try dsimp only at hSw); go_simp; try (with_reducible rfl)
              try simp only [Act.put, List.setIfInBounds_toArray, List.set_cons_zero, List.set_cons_succ]
              refine GoE.take (i := 20) (v := ?_) rfl (by decide) (by kernel_rfl) (by kernel_rfl) (by kernel_rfl) (by kernel_rfl) (fun _ _ _ h => h) (by rfl) ?_ (by assumption) ?_
              rotate_left
              · intro w hSw; (try dsimp only at hSw); go_simp; try (with_reducible rfl)
              try simp only [Act.put, List.setIfInBounds_toArray, List.set_cons_zero, List.set_cons_succ]
              refine GoE.take (i := 21) (v := ?_) rfl (by decide) (by kernel_rfl) (by kernel_rfl) (by kernel_rfl) (by kernel_rfl) (fun _ _ _ h => h) (by rfl) ?_ (by assumption) ?_
              rotate_left
              · intro w hSw; (try dsimp only at hSw); go_simp; try (with_reducible rfl)
              try simp only [Act.put, List.setIfInBounds_toArray, List.set_cons_zero, List.set_cons_succ]
              refine GoE.take (i := 22) (v := ?_) rfl (by decide) (by kernel_rfl) (by kernel_rfl) (by kernel_rfl) (by kernel_rfl) (fun _ _ _ h => h) (by rfl) ?_ (by assumption) ?_
              rotate_left
              · intro w hSw; (try dsimp only at hSw); go_simp; try (with_reducible rfl)
              try simp only [Act.put, List.setIfInBounds_toArray, List.set_cons_zero, List.set_cons_succ]
              refine GoE.take (i := 24) (v := ?_) rfl (by decide) (by kernel_rfl) (by kernel_rfl) (by kernel_rfl) (by kernel_rfl) (fun _ _ _ h => h) (by rfl) ?_ (by assumption) ?_
              rotate_left
              · intro w hSw; (try dsimp only at hSw); go_simp; try (with_reducible rfl)
              try simp only [Act.put, List.setIfInBounds_toArray, List.set_cons_zero, List.set_cons_succ]
              refine GoE.one (i := 23) rfl (by kernel_rfl) (fun K hK => ?_)
              go_simp
              go_at_call 22
              (with_reducible refine (kD1).mono ?_)
              rintro e6 w6 ⟨v6, rfl, h6⟩; have h6' : SatL w6 (Sl 3 v6 (DL.map (Value.int .i64)) :: CacheA pb (n : Int) bs :: _) := h6; obtain ⟨da, dc, rfl, da1, da2⟩ := Sl.valn h6' (m := DL.length) (List.length_map _); have S6 := hcel.out _ _ _ (h6.pull 5) (h6.pull 6); have kB := hHas.out _ _ dc _ h6'
              go_wp2_with fail
              refine hK.out _ _ (fun _ => S6) ?_
              clear hK K
              try simp only [Act.put, List.setIfInBounds_toArray, List.set_cons_zero, List.set_cons_succ]
              refine GoE.one (i := 25) rfl (by kernel_rfl) (fun K hK => ?_)
              go_simp
              go_at_call 25
              (with_reducible refine (kB).mono ?_)
              rintro e7 w7 ⟨v7, rfl, rfl, h7⟩; have S7 := hcel.out _ _ _ (h7.pull 5) (h7.pull 6)
              go_wp2_with fail
              refine hK.out _ _ (fun _ => S7) ?_
              clear hK K
              try simp only [Act.put, List.setIfInBounds_toArray, List.set_cons_zero, List.set_cons_succ]
              refine GoE.take (i := 26) (v := ?_) rfl (by decide) (by kernel_rfl) (by kernel_rfl) (by kernel_rfl) (by kernel_rfl) (fun _ _ _ h => h) (by rfl) ?_ (by assumption) ?_
              rotate_left
              · intro w hSw; (try dsimp only at hSw); go_simp; try (with_reducible rfl)
              try simp only [Act.put, List.setIfInBounds_toArray, List.set_cons_zero, List.set_cons_succ]
              refine GoE.take (i := 27) (v := ?_) rfl (by decide) (by kernel_rfl) (by kernel_rfl) (by kernel_rfl) (by kernel_rfl) (fun _ _ _ h => h) (by rfl) ?_ (by assumption) ?_
              rotate_left
              · intro w hSw; (try dsimp only at hSw); go_simp; try (with_reducible rfl)
              try simp only [Act.put, List.setIfInBounds_toArray, List.set_cons_zero, List.set_cons_succ]
              refine GoE.take (i := 28) (v := ?_) rfl (by decide) (by kernel_rfl) (by kernel_rfl) (by kernel_rfl) (by kernel_rfl) (fun _ _ _ h => h) (by rfl) ?_ (by assumption) ?_
              rotate_left
              · intro w hSw; (try dsimp only at hSw); go_simp; try (with_reducible rfl)
              try simp only [Act.put, List.setIfInBounds_toArray, List.set_cons_zero, List.set_cons_succ]
              refine GoE.take (i := 29) (v := ?_) rfl (by decide) (by kernel_rfl) (by kernel_rfl) (by kernel_rfl) (by kernel_rfl) (fun _ _ _ h => h) (by rfl) ?_ (by assumption) ?_
              rotate_left
              · intro w hSw; (try dsimp only at hSw); go_simp; try (with_reducible rfl)
              try simp only [Act.put, List.setIfInBounds_toArray, List.set_cons_zero, List.set_cons_succ]
              refine GoE.take (i := 30) (v := ?_) rfl (by decide) (by kernel_rfl) (by kernel_rfl) (by kernel_rfl) (by kernel_rfl) (fun _ _ _ h => h) (by rfl) ?_ (by assumption) ?_
              rotate_left
              · intro w hSw; (try dsimp only at hSw); go_simp; try (with_reducible rfl)
              try simp only [Act.put, List.setIfInBounds_toArray, List.set_cons_zero, List.set_cons_succ]
              refine GoE.take (i := 31) (v := ?_) rfl (by decide) (by kernel_rfl) (by kernel_rfl) (by kernel_rfl) (by kernel_rfl) (fun _ _ _ h => h) (by rfl) ?_ (by assumption) ?_
              rotate_left
              · intro w hSw; (try dsimp only at hSw); go_simp; try (with_reducible rfl)
              try simp only [Act.put, List.setIfInBounds_toArray, List.set_cons_zero, List.set_cons_succ]
              refine GoE.take (i := 32) (v := ?_) rfl (by decide) (by kernel_rfl) (by kernel_rfl) (by kernel_rfl) (by kernel_rfl) (fun _ _ _ h => h) (by rfl) ?_ (by assumption) ?_
              rotate_left
              · intro w hSw; (try dsimp only at hSw); go_simp; try (with_reducible rfl)
              try simp only [Act.put, List.setIfInBounds_toArray, List.set_cons_zero, List.set_cons_succ]
              refine GoE.take (i := 33) (v := ?_) rfl (by decide) (by kernel_rfl) (by kernel_rfl) (by kernel_rfl) (by kernel_rfl) (fun _ _ _ h => h) (by rfl) ?_ (by assumption) ?_
              rotate_left
              · intro w hSw; (try dsimp only at hSw); go_simp; try (with_reducible rfl)
              try simp only [Act.put, List.setIfInBounds_toArray, List.set_cons_zero, List.set_cons_succ]
              refine GoE.one (i := 34) rfl (by kernel_rfl) (fun K hK => ?_)
              go_simp
              refine hK.out _ _ (fun h => absurd rfl h) ?_
              clear hK K
              try simp only [Act.put, List.setIfInBounds_toArray, List.set_cons_zero, List.set_cons_succ]
              refine GoE.done (by kernel_rfl) ?_
              have h8 := (SatL.tail h7).bring [1, 0, 2, 3, 4, 5, 6]
              have H8 := hid h8
              clear h5 h6 h6' h7 h8 S0 S5 S6 S7 kD1 kB kA Hs
              go_wp2
              go_roundw
              case rel => exact ⟨j + 1, by omega, by go_num, H8.out⟩
              case measure => simp [intOf]; omega
          | false =>
            by_cases hqp : 0 < qk
            · as_aux_lemma =>
                rw [hheld (.inr hqp)] at kA
                clear hheld
                go_upto_region 44 with fail
                refine GoE.start (fun w' => w'.cell? ⟨db, j, none⟩ = some (.bool false) ∧ w'.cell? ⟨qb, j, none⟩ = some (.int .i64 qk)) 34 35 rfl (by kernel_rfl) ?_
                refine GoE.take (i := 0) (v := ?_) rfl (by decide) (by kernel_rfl) (by kernel_rfl) (by kernel_rfl) (by kernel_rfl) (fun _ _ _ h => h) (by rfl) ?_ (by assumption) ?_
                rotate_left
                · intro w hSw; (try dsimp only at hSw); go_simp; try (with_reducible rfl)
                try simp only [Act.put, List.setIfInBounds_toArray, List.set_cons_zero, List.set_cons_succ]
                refine GoE.take (i := 1) (v := ?_) rfl (by decide) (by kernel_rfl) (by kernel_rfl) (by kernel_rfl) (by kernel_rfl) (fun _ _ _ h => h) (by rfl) ?_ (by assumption) ?_
                rotate_left
                · intro w hSw; (try dsimp only at hSw); go_simp; try (with_reducible rfl)
                try simp only [Act.put, List.setIfInBounds_toArray, List.set_cons_zero, List.set_cons_succ]
                refine GoE.take (i := 2) (v := ?_) rfl (by decide) (by kernel_rfl) (by kernel_rfl) (by kernel_rfl) (by kernel_rfl) (fun _ _ _ h => h) (by rfl) ?_ (by assumption) ?_
                rotate_left
                · intro w hSw; (try dsimp only at hSw); go_simp; try (with_reducible rfl)
                try simp only [Act.put, List.setIfInBounds_toArray, List.set_cons_zero, List.set_cons_succ]
                refine GoE.take (i := 3) (v := ?_) rfl (by decide) (by kernel_rfl) (by kernel_rfl) (by kernel_rfl) (by kernel_rfl) (fun _ _ _ h => h) (by rfl) ?_ (by assumption) ?_
                rotate_left
                · intro w hSw; (try dsimp only at hSw); go_simp; try (with_reducible rfl)
                try simp only [Act.put, List.setIfInBounds_toArray, List.set_cons_zero, List.set_cons_succ]
                refine GoE.take (i := 4) (v := ?_) rfl (by decide) (by kernel_rfl) (by kernel_rfl) (by kernel_rfl) (by kernel_rfl) (fun _ _ _ h => h) (by rfl) ?_ (by assumption) ?_
                rotate_left
                · intro w hSw; (try dsimp only at hSw); go_simp; try (with_reducible rfl)
                try simp only [Act.put, List.setIfInBounds_toArray, List.set_cons_zero, List.set_cons_succ]
                refine GoE.take (i := 5) (v := ?_) rfl (by decide) (by kernel_rfl) (by kernel_rfl) (by kernel_rfl) (by kernel_rfl) (fun _ _ _ h => h) (by rfl) ?_ (by assumption) ?_
                rotate_left
                · intro w hSw; (try dsimp only at hSw); go_simp; try (with_reducible rfl)
                try simp only [Act.put, List.setIfInBounds_toArray, List.set_cons_zero, List.set_cons_succ]
                refine GoE.take (i := 6) (v := ?_) rfl (by decide) (by kernel_rfl) (by kernel_rfl) (by kernel_rfl) (by kernel_rfl) (fun _ _ _ h => h) (by rfl) ?_ (by assumption) ?_
                rotate_left
                · intro w hSw; (try dsimp only at hSw); go_simp; try (with_reducible rfl)
                try simp only [Act.put, List.setIfInBounds_toArray, List.set_cons_zero, List.set_cons_succ]
                refine GoE.take (i := 7) (v := ?_) rfl (by decide) (by kernel_rfl) (by kernel_rfl) (by kernel_rfl) (by kernel_rfl) (fun _ _ _ h => h) (by rfl) ?_ (by assumption) ?_
                rotate_left
                · intro w hSw; (try dsimp only at hSw); go_simp; try (with_reducible rfl)
                try simp only [Act.put, List.setIfInBounds_toArray, List.set_cons_zero, List.set_cons_succ]
                refine GoE.take (i := 8) (v := ?_) rfl (by decide) (by kernel_rfl) (by kernel_rfl) (by kernel_rfl) (by kernel_rfl) (fun _ _ _ h => h) (by rfl) ?_ (by assumption) ?_
                rotate_left
                · intro w hSw; (try dsimp only at hSw); go_simp; try (with_reducible rfl)
                try simp only [Act.put, List.setIfInBounds_toArray, List.set_cons_zero, List.set_cons_succ]
                refine GoE.take (i := 9) (v := ?_) rfl (by decide) (by kernel_rfl) (by kernel_rfl) (by kernel_rfl) (by kernel_rfl) (fun _ _ _ h => h) (by rfl) ?_ (by assumption) ?_
                rotate_left
                · intro w hSw; (try dsimp only at hSw); go_simp; try (with_reducible rfl)
                try simp only [Act.put, List.setIfInBounds_toArray, List.set_cons_zero, List.set_cons_succ]
                refine GoE.take (i := 10) (v := ?_) rfl (by decide) (by kernel_rfl) (by kernel_rfl) (by kernel_rfl) (by kernel_rfl) (fun _ _ _ h => h) (by rfl) ?_ (by assumption) ?_
                rotate_left
                · intro w hSw; (try dsimp only at hSw); go_simp; try (with_reducible rfl)
                try simp only [Act.put, List.setIfInBounds_toArray, List.set_cons_zero, List.set_cons_succ]
                refine GoE.take (i := 11) (v := ?_) rfl (by decide) (by kernel_rfl) (by kernel_rfl) (by kernel_rfl) (by kernel_rfl) (fun _ _ _ h => h) (by rfl) ?_ (by assumption) ?_
                rotate_left
                · intro w hSw; (try dsimp only at hSw); go_simp; try (with_reducible rfl)
                try simp only [Act.put, List.setIfInBounds_toArray, List.set_cons_zero, List.set_cons_succ]
                refine GoE.take (i := 12) (v := ?_) rfl (by decide) (by kernel_rfl) (by kernel_rfl) (by kernel_rfl) (by kernel_rfl) (fun _ _ _ h => h) (by rfl) ?_ (by assumption) ?_
                rotate_left
                · intro w hSw; (try dsimp only at hSw); go_simp; try (with_reducible rfl)
                try simp only [Act.put, List.setIfInBounds_toArray, List.set_cons_zero, List.set_cons_succ]
                refine GoE.take (i := 13) (v := ?_) rfl (by decide) (by kernel_rfl) (by kernel_rfl) (by kernel_rfl) (by kernel_rfl) (fun _ _ _ h => h) (by rfl) ?_ (by assumption) ?_
                rotate_left
                · intro w hSw; (try dsimp only at hSw); go_simp; try (with_reducible rfl)
                try simp only [Act.put, List.setIfInBounds_toArray, List.set_cons_zero, List.set_cons_succ]
                refine GoE.one (i := 14) rfl (by kernel_rfl) (fun K hK => ?_)
                go_simp
                go_at_call 25
                (with_reducible refine (kA).mono ?_)
                rintro e5 w5 ⟨v5, rfl, rfl, h5⟩; have S5 := hcel.out _ _ _ (h5.pull 4) (h5.pull 5); have kD1 := kD.out _ _ (h5.pull 1)
                go_wp2_with fail
                refine hK.out _ _ (fun _ => S5) ?_
                clear hK K
                try simp only [Act.put, List.setIfInBounds_toArray, List.set_cons_zero, List.set_cons_succ]
                refine GoE.take (i := 15) (v := ?_) rfl (by decide) (by kernel_rfl) (by kernel_rfl) (by kernel_rfl) (by kernel_rfl) (fun _ _ _ h => h) (by rfl) ?_ (by assumption) ?_
                rotate_left
                · intro w hSw; (try dsimp only at hSw); go_simp; try (with_reducible rfl)
                try simp only [Act.put, List.setIfInBounds_toArray, List.set_cons_zero, List.set_cons_succ]
                refine GoE.take (i := 16) (v := ?_) rfl (by decide) (by kernel_rfl) (by kernel_rfl) (by kernel_rfl) (by kernel_rfl) (fun _ _ _ h => h) (by rfl) ?_ (by assumption) ?_
                rotate_left
                · intro w hSw; (try dsimp only at hSw); go_simp; try (with_reducible rfl)
                try simp only [Act.put, List.setIfInBounds_toArray, List.set_cons_zero, List.set_cons_succ]
                refine GoE.take (i := 17) (v := ?_) rfl (by decide) (by kernel_rfl) (by kernel_rfl) (by kernel_rfl) (by kernel_rfl) (fun _ _ _ h => h) (by rfl) ?_ (by assumption) ?_
                rotate_left
                · intro w hSw; (try dsimp only at hSw); go_simp; try (with_reducible rfl)
                try simp only [Act.put, List.setIfInBounds_toArray, List.set_cons_zero, List.set_cons_succ]
                refine GoE.take (i := 18) (v := ?_) rfl (by decide) (by kernel_rfl) (by kernel_rfl) (by kernel_rfl) (by kernel_rfl) (fun _ _ _ h => h) (by rfl) ?_ (by assumption) ?_
                rotate_left
                · intro w hSw; (try dsimp only at hSw); go_simp; try (with_reducible rfl)
                try simp only [Act.put, List.setIfInBounds_toArray, List.set_cons_zero, List.set_cons_succ]
                refine GoE.take (i := 19) (v := ?_) rfl (by decide) (by kernel_rfl) (by kernel_rfl) (by kernel_rfl) (by kernel_rfl) (fun _ _ _ h => h) (by rfl) ?_ (by assumption) ?_
                rotate_left
                · intro w hSw; (try dsimp only at hSw); go_simp; try (with_reducible rfl)
                try simp only [Act.put, List.setIfInBounds_toArray, List.set_cons_zero, List.set_cons_succ]
                refine GoE.take (i := 20) (v := ?_) rfl (by decide) (by kernel_rfl) (by kernel_rfl) (by kernel_rfl) (by kernel_rfl) (fun _ _ _ h => h) (by rfl) ?_ (by assumption) ?_
                rotate_left
                · intro w hSw; (try dsimp only at hSw); go_simp; try (with_reducible rfl)
                try simp only [Act.put, List.setIfInBounds_toArray, List.set_cons_zero, List.set_cons_succ]
                refine GoE.take (i := 21) (v := ?_) rfl (by decide) (by kernel_rfl) (by kernel_rfl) (by kernel_rfl) (by kernel_rfl) (fun _ _ _ h => h) (by rfl) ?_ (by assumption) ?_
                rotate_left
                · intro w hSw; (try dsimp only at hSw); go_simp; try (with_reducible rfl)
                try simp only [Act.put, List.setIfInBounds_toArray, List.set_cons_zero, List.set_cons_succ]
                refine GoE.take (i := 22) (v := ?_) rfl (by decide) (by kernel_rfl) (by kernel_rfl) (by kernel_rfl) (by kernel_rfl) (fun _ _ _ h => h) (by rfl) ?_ (by assumption) ?_
                rotate_left
                · intro w hSw; (try dsimp only at hSw); go_simp; try (with_reducible rfl)
                try simp only [Act.put, List.setIfInBounds_toArray, List.set_cons_zero, List.set_cons_succ]
                refine GoE.take (i := 24) (v := ?_) rfl (by decide) (by kernel_rfl) (by kernel_rfl) (by kernel_rfl) (by kernel_rfl) (fun _ _ _ h => h) (by rfl) ?_ (by assumption) ?_
                rotate_left
                · intro w hSw; (try dsimp only at hSw); go_simp; try (with_reducible rfl)
                try simp only [Act.put, List.setIfInBounds_toArray, List.set_cons_zero, List.set_cons_succ]
                refine GoE.one (i := 23) rfl (by kernel_rfl) (fun K hK => ?_)
                go_simp
                go_at_call 22
                (with_reducible refine (kD1).mono ?_)
                rintro e6 w6 ⟨v6, rfl, h6⟩; have h6' : SatL w6 (Sl 3 v6 (DL.map (Value.int .i64)) :: CacheA pb (n : Int) bs :: _) := h6; obtain ⟨da, dc, rfl, da1, da2⟩ := Sl.valn h6' (m := DL.length) (List.length_map _); have S6 := hcel.out _ _ _ (h6.pull 5) (h6.pull 6); have kB := hHas.out _ _ dc _ h6'
                go_wp2_with fail
                refine hK.out _ _ (fun _ => S6) ?_
                clear hK K
                try simp only [Act.put, List.setIfInBounds_toArray, List.set_cons_zero, List.set_cons_succ]
                refine GoE.one (i := 25) rfl (by kernel_rfl) (fun K hK => ?_)
                go_simp
                go_at_call 25
                (with_reducible refine (kB).mono ?_)
                rintro e7 w7 ⟨v7, rfl, rfl, h7⟩; have S7 := hcel.out _ _ _ (h7.pull 5) (h7.pull 6)
                go_wp2_with fail
                refine hK.out _ _ (fun _ => S7) ?_
                clear hK K
                try simp only [Act.put, List.setIfInBounds_toArray, List.set_cons_zero, List.set_cons_succ]
                refine GoE.take (i := 26) (v := ?_) rfl (by decide) (by kernel_rfl) (by kernel_rfl) (by kernel_rfl) (by kernel_rfl) (fun _ _ _ h => h) (by rfl) ?_ (by assumption) ?_
                rotate_left
                · intro w hSw; (try dsimp only at hSw); go_simp; try (with_reducible rfl)
                try simp only [Act.put, List.setIfInBounds_toArray, List.set_cons_zero, List.set_cons_succ]
                refine GoE.take (i := 27) (v := ?_) rfl (by decide) (by kernel_rfl) (by kernel_rfl) (by kernel_rfl) (by kernel_rfl) (fun _ _ _ h => h) (by rfl) ?_ (by assumption) ?_
                rotate_left
                · intro w hSw; (try dsimp only at hSw); go_simp; try (with_reducible rfl)
                try simp only [Act.put, List.setIfInBounds_toArray, List.set_cons_zero, List.set_cons_succ]
                refine GoE.take (i := 28) (v := ?_) rfl (by decide) (by kernel_rfl) (by kernel_rfl) (by kernel_rfl) (by kernel_rfl) (fun _ _ _ h => h) (by rfl) ?_ (by assumption) ?_
                rotate_left
                · intro w hSw; (try dsimp only at hSw); go_simp; try (with_reducible rfl)
                try simp only [Act.put, List.setIfInBounds_toArray, List.set_cons_zero, List.set_cons_succ]
                refine GoE.take (i := 29) (v := ?_) rfl (by decide) (by kernel_rfl) (by kernel_rfl) (by kernel_rfl) (by kernel_rfl) (fun _ _ _ h => h) (by rfl) ?_ (by assumption) ?_
                rotate_left
                · intro w hSw; (try dsimp only at hSw); go_simp; try (with_reducible rfl)
                try simp only [Act.put, List.setIfInBounds_toArray, List.set_cons_zero, List.set_cons_succ]
                refine GoE.take (i := 30) (v := ?_) rfl (by decide) (by kernel_rfl) (by kernel_rfl) (by kernel_rfl) (by kernel_rfl) (fun _ _ _ h => h) (by rfl) ?_ (by assumption) ?_
                rotate_left
                · intro w hSw; (try dsimp only at hSw); go_simp; try (with_reducible rfl)
                try simp only [Act.put, List.setIfInBounds_toArray, List.set_cons_zero, List.set_cons_succ]
                refine GoE.take (i := 31) (v := ?_) rfl (by decide) (by kernel_rfl) (by kernel_rfl) (by kernel_rfl) (by kernel_rfl) (fun _ _ _ h => h) (by rfl) ?_ (by assumption) ?_
                rotate_left
                · intro w hSw; (try dsimp only at hSw); go_simp; try (with_reducible rfl)
                try simp only [Act.put, List.setIfInBounds_toArray, List.set_cons_zero, List.set_cons_succ]
                refine GoE.take (i := 32) (v := ?_) rfl (by decide) (by kernel_rfl) (by kernel_rfl) (by kernel_rfl) (by kernel_rfl) (fun _ _ _ h => h) (by rfl) ?_ (by assumption) ?_
                rotate_left
                · intro w hSw; (try dsimp only at hSw); go_simp; try (with_reducible rfl)
                try simp only [Act.put, List.setIfInBounds_toArray, List.set_cons_zero, List.set_cons_succ]
                refine GoE.take (i := 33) (v := ?_) rfl (by decide) (by kernel_rfl) (by kernel_rfl) (by kernel_rfl) (by kernel_rfl) (fun _ _ _ h => h) (by rfl) ?_ (by assumption) ?_
                rotate_left
                · intro w hSw; (try dsimp only at hSw); go_simp; try (with_reducible rfl)
                try simp only [Act.put, List.setIfInBounds_toArray, List.set_cons_zero, List.set_cons_succ]
                refine GoE.one (i := 34) rfl (by kernel_rfl) (fun K hK => ?_)
                go_simp
                refine hK.out _ _ (fun h => absurd rfl h) ?_
                clear hK K
                try simp only [Act.put, List.setIfInBounds_toArray, List.set_cons_zero, List.set_cons_succ]
                refine GoE.done (by kernel_rfl) ?_
                have h8 := (SatL.tail h7).bring [1, 0, 2, 3, 4, 5, 6]
                have H8 := hid h8
                clear h5 h6 h6' h7 h8 S0 S5 S6 S7 kD1 kB kA Hs
                go_wp2
                go_roundw
                case rel => exact ⟨j + 1, by omega, by go_num, H8.out⟩
                case measure => simp [intOf]; omega
            · as_aux_lemma =>
                obtain rfl : qk = 0 := by omega
                clear hheld
                go_upto_region 44 with fail
                refine GoE.start (fun w' => w'.cell? ⟨db, j, none⟩ = some (.bool false) ∧ w'.cell? ⟨qb, j, none⟩ = some (.int .i64 0)) 34 35 rfl (by kernel_rfl) ?_
                refine GoE.take (i := 0) (v := ?_) rfl (by decide) (by kernel_rfl) (by kernel_rfl) (by kernel_rfl) (by kernel_rfl) (fun _ _ _ h => h) (by rfl) ?_ (by assumption) ?_
                rotate_left
                · intro w hSw; (try dsimp only at hSw); go_simp; try (with_reducible rfl)
                try simp only [Act.put, List.setIfInBounds_toArray, List.set_cons_zero, List.set_cons_succ]
                refine GoE.take (i := 1) (v := ?_) rfl (by decide) (by kernel_rfl) (by kernel_rfl) (by kernel_rfl) (by kernel_rfl) (fun _ _ _ h => h) (by rfl) ?_ (by assumption) ?_
                rotate_left
                · intro w hSw; (try dsimp only at hSw); go_simp; try (with_reducible rfl)
                try simp only [Act.put, List.setIfInBounds_toArray, List.set_cons_zero, List.set_cons_succ]
                refine GoE.take (i := 2) (v := ?_) rfl (by decide) (by kernel_rfl) (by kernel_rfl) (by kernel_rfl) (by kernel_rfl) (fun _ _ _ h => h) (by rfl) ?_ (by assumption) ?_
                rotate_left
                · intro w hSw; (try dsimp only at hSw); go_simp; try (with_reducible rfl)
                try simp only [Act.put, List.setIfInBounds_toArray, List.set_cons_zero, List.set_cons_succ]
                refine GoE.take (i := 3) (v := ?_) rfl (by decide) (by kernel_rfl) (by kernel_rfl) (by kernel_rfl) (by kernel_rfl) (fun _ _ _ h => h) (by rfl) ?_ (by assumption) ?_
                rotate_left
                · intro w hSw; (try dsimp only at hSw); go_simp; try (with_reducible rfl)
                try simp only [Act.put, List.setIfInBounds_toArray, List.set_cons_zero, List.set_cons_succ]
                refine GoE.take (i := 4) (v := ?_) rfl (by decide) (by kernel_rfl) (by kernel_rfl) (by kernel_rfl) (by kernel_rfl) (fun _ _ _ h => h) (by rfl) ?_ (by assumption) ?_
                rotate_left
                · intro w hSw; (try dsimp only at hSw); go_simp; try (with_reducible rfl)
                try simp only [Act.put, List.setIfInBounds_toArray, List.set_cons_zero, List.set_cons_succ]
                refine GoE.take (i := 5) (v := ?_) rfl (by decide) (by kernel_rfl) (by kernel_rfl) (by kernel_rfl) (by kernel_rfl) (fun _ _ _ h => h) (by rfl) ?_ (by assumption) ?_
                rotate_left
                · intro w hSw; (try dsimp only at hSw); go_simp; try (with_reducible rfl)
                try simp only [Act.put, List.setIfInBounds_toArray, List.set_cons_zero, List.set_cons_succ]
                refine GoE.take (i := 6) (v := ?_) rfl (by decide) (by kernel_rfl) (by kernel_rfl) (by kernel_rfl) (by kernel_rfl) (fun _ _ _ h => h) (by rfl) ?_ (by assumption) ?_
                rotate_left
                · intro w hSw; (try dsimp only at hSw); go_simp; try (with_reducible rfl)
                try simp only [Act.put, List.setIfInBounds_toArray, List.set_cons_zero, List.set_cons_succ]
                refine GoE.take (i := 7) (v := ?_) rfl (by decide) (by kernel_rfl) (by kernel_rfl) (by kernel_rfl) (by kernel_rfl) (fun _ _ _ h => h) (by rfl) ?_ (by assumption) ?_
                rotate_left
                · intro w hSw; (try dsimp only at hSw); go_simp; try (with_reducible rfl)
                try simp only [Act.put, List.setIfInBounds_toArray, List.set_cons_zero, List.set_cons_succ]
                refine GoE.take (i := 8) (v := ?_) rfl (by decide) (by kernel_rfl) (by kernel_rfl) (by kernel_rfl) (by kernel_rfl) (fun _ _ _ h => h) (by rfl) ?_ (by assumption) ?_
                rotate_left
                · intro w hSw; (try dsimp only at hSw); go_simp; try (with_reducible rfl)
                try simp only [Act.put, List.setIfInBounds_toArray, List.set_cons_zero, List.set_cons_succ]
                refine GoE.take (i := 9) (v := ?_) rfl (by decide) (by kernel_rfl) (by kernel_rfl) (by kernel_rfl) (by kernel_rfl) (fun _ _ _ h => h) (by rfl) ?_ (by assumption) ?_
                rotate_left
                · intro w hSw; (try dsimp only at hSw); go_simp; try (with_reducible rfl)
                try simp only [Act.put, List.setIfInBounds_toArray, List.set_cons_zero, List.set_cons_succ]
                refine GoE.take (i := 10) (v := ?_) rfl (by decide) (by kernel_rfl) (by kernel_rfl) (by kernel_rfl) (by kernel_rfl) (fun _ _ _ h => h) (by rfl) ?_ (by assumption) ?_
                rotate_left
                · intro w hSw; (try dsimp only at hSw); go_simp; try (with_reducible rfl)
                try simp only [Act.put, List.setIfInBounds_toArray, List.set_cons_zero, List.set_cons_succ]
                refine GoE.take (i := 11) (v := ?_) rfl (by decide) (by kernel_rfl) (by kernel_rfl) (by kernel_rfl) (by kernel_rfl) (fun _ _ _ h => h) (by rfl) ?_ (by assumption) ?_
                rotate_left
                · intro w hSw; (try dsimp only at hSw); go_simp; try (with_reducible rfl)
                try simp only [Act.put, List.setIfInBounds_toArray, List.set_cons_zero, List.set_cons_succ]
                refine GoE.skip (i := 12) rfl (by decide) (by kernel_rfl) (by kernel_rfl) (by kernel_rfl) (by kernel_rfl) (fun _ _ _ h => h) (by rfl) (by assumption) ?_
                try simp only [Act.put, List.setIfInBounds_toArray, List.set_cons_zero, List.set_cons_succ]
                refine GoE.skip (i := 13) rfl (by decide) (by kernel_rfl) (by kernel_rfl) (by kernel_rfl) (by kernel_rfl) (fun _ _ _ h => h) (by rfl) (by assumption) ?_
                try simp only [Act.put, List.setIfInBounds_toArray, List.set_cons_zero, List.set_cons_succ]
                refine GoE.skip (i := 14) rfl (by decide) (by kernel_rfl) (by kernel_rfl) (by kernel_rfl) (by kernel_rfl) (fun _ _ _ h => h) (by rfl) (by assumption) ?_
                try simp only [Act.put, List.setIfInBounds_toArray, List.set_cons_zero, List.set_cons_succ]
                refine GoE.skip (i := 15) rfl (by decide) (by kernel_rfl) (by kernel_rfl) (by kernel_rfl) (by kernel_rfl) (fun _ _ _ h => h) (by rfl) (by assumption) ?_
                try simp only [Act.put, List.setIfInBounds_toArray, List.set_cons_zero, List.set_cons_succ]
                have h5 := Hs.out
                have kD1 := kD.out _ _ (h5.pull 1)
                refine GoE.take (i := 16) (v := ?_) rfl (by decide) (by kernel_rfl) (by kernel_rfl) (by kernel_rfl) (by kernel_rfl) (fun _ _ _ h => h) (by rfl) ?_ (by assumption) ?_
                rotate_left
                · intro w hSw; (try dsimp only at hSw); go_simp; try (with_reducible rfl)
                try simp only [Act.put, List.setIfInBounds_toArray, List.set_cons_zero, List.set_cons_succ]
                refine GoE.take (i := 17) (v := ?_) rfl (by decide) (by kernel_rfl) (by kernel_rfl) (by kernel_rfl) (by kernel_rfl) (fun _ _ _ h => h) (by rfl) ?_ (by assumption) ?_
                rotate_left
                · intro w hSw; (try dsimp only at hSw); go_simp; try (with_reducible rfl)
                try simp only [Act.put, List.setIfInBounds_toArray, List.set_cons_zero, List.set_cons_succ]
                refine GoE.take (i := 18) (v := ?_) rfl (by decide) (by kernel_rfl) (by kernel_rfl) (by kernel_rfl) (by kernel_rfl) (fun _ _ _ h => h) (by rfl) ?_ (by assumption) ?_
                rotate_left
                · intro w hSw; (try dsimp only at hSw); go_simp; try (with_reducible rfl)
                try simp only [Act.put, List.setIfInBounds_toArray, List.set_cons_zero, List.set_cons_succ]
                refine GoE.take (i := 19) (v := ?_) rfl (by decide) (by kernel_rfl) (by kernel_rfl) (by kernel_rfl) (by kernel_rfl) (fun _ _ _ h => h) (by rfl) ?_ (by assumption) ?_
                rotate_left
                · intro w hSw; (try dsimp only at hSw); go_simp; try (with_reducible rfl)
                try simp only [Act.put, List.setIfInBounds_toArray, List.set_cons_zero, List.set_cons_succ]
                refine GoE.take (i := 20) (v := ?_) rfl (by decide) (by kernel_rfl) (by kernel_rfl) (by kernel_rfl) (by kernel_rfl) (fun _ _ _ h => h) (by rfl) ?_ (by assumption) ?_
                rotate_left
                · intro w hSw; (try dsimp only at hSw); go_simp; try (with_reducible rfl)
                try simp only [Act.put, List.setIfInBounds_toArray, List.set_cons_zero, List.set_cons_succ]
                refine GoE.take (i := 21) (v := ?_) rfl (by decide) (by kernel_rfl) (by kernel_rfl) (by kernel_rfl) (by kernel_rfl) (fun _ _ _ h => h) (by rfl) ?_ (by assumption) ?_
                rotate_left
                · intro w hSw; (try dsimp only at hSw); go_simp; try (with_reducible rfl)
                try simp only [Act.put, List.setIfInBounds_toArray, List.set_cons_zero, List.set_cons_succ]
                refine GoE.take (i := 22) (v := ?_) rfl (by decide) (by kernel_rfl) (by kernel_rfl) (by kernel_rfl) (by kernel_rfl) (fun _ _ _ h => h) (by rfl) ?_ (by assumption) ?_
                rotate_left
                · intro w hSw; (try dsimp only at hSw); go_simp; try (with_reducible rfl)
                try simp only [Act.put, List.setIfInBounds_toArray, List.set_cons_zero, List.set_cons_succ]
                refine GoE.take (i := 24) (v := ?_) rfl (by decide) (by kernel_rfl) (by kernel_rfl) (by kernel_rfl) (by kernel_rfl) (fun _ _ _ h => h) (by rfl) ?_ (by assumption) ?_
                rotate_left
                · intro w hSw; (try dsimp only at hSw); go_simp; try (with_reducible rfl)
                try simp only [Act.put, List.setIfInBounds_toArray, List.set_cons_zero, List.set_cons_succ]
                refine GoE.one (i := 23) rfl (by kernel_rfl) (fun K hK => ?_)
                go_simp
                go_at_call 22
                (with_reducible refine (kD1).mono ?_)
                rintro e6 w6 ⟨v6, rfl, h6⟩; have h6' : SatL w6 (Sl 3 v6 (DL.map (Value.int .i64)) :: CacheA pb (n : Int) bs :: _) := h6; obtain ⟨da, dc, rfl, da1, da2⟩ := Sl.valn h6' (m := DL.length) (List.length_map _); have S6 := hcel.out _ _ _ (h6.pull 5) (h6.pull 6); have kB := hHas.out _ _ dc _ h6'
                go_wp2_with fail
                refine hK.out _ _ (fun _ => S6) ?_
                clear hK K
                try simp only [Act.put, List.setIfInBounds_toArray, List.set_cons_zero, List.set_cons_succ]
                refine GoE.one (i := 25) rfl (by kernel_rfl) (fun K hK => ?_)
                go_simp
                go_at_call 25
                (with_reducible refine (kB).mono ?_)
                rintro e7 w7 ⟨v7, rfl, rfl, h7⟩; have S7 := hcel.out _ _ _ (h7.pull 5) (h7.pull 6)
                go_wp2_with fail
                refine hK.out _ _ (fun _ => S7) ?_
                clear hK K
                try simp only [Act.put, List.setIfInBounds_toArray, List.set_cons_zero, List.set_cons_succ]
                refine GoE.take (i := 26) (v := ?_) rfl (by decide) (by kernel_rfl) (by kernel_rfl) (by kernel_rfl) (by kernel_rfl) (fun _ _ _ h => h) (by rfl) ?_ (by assumption) ?_
                rotate_left
                · intro w hSw; (try dsimp only at hSw); go_simp; try (with_reducible rfl)
                try simp only [Act.put, List.setIfInBounds_toArray, List.set_cons_zero, List.set_cons_succ]
                refine GoE.take (i := 27) (v := ?_) rfl (by decide) (by kernel_rfl) (by kernel_rfl) (by kernel_rfl) (by kernel_rfl) (fun _ _ _ h => h) (by rfl) ?_ (by assumption) ?_
                rotate_left
                · intro w hSw; (try dsimp only at hSw); go_simp; try (with_reducible rfl)
                try simp only [Act.put, List.setIfInBounds_toArray, List.set_cons_zero, List.set_cons_succ]
                refine GoE.take (i := 28) (v := ?_) rfl (by decide) (by kernel_rfl) (by kernel_rfl) (by kernel_rfl) (by kernel_rfl) (fun _ _ _ h => h) (by rfl) ?_ (by assumption) ?_
                rotate_left
                · intro w hSw; (try dsimp only at hSw); go_simp; try (with_reducible rfl)
                try simp only [Act.put, List.setIfInBounds_toArray, List.set_cons_zero, List.set_cons_succ]
                refine GoE.take (i := 29) (v := ?_) rfl (by decide) (by kernel_rfl) (by kernel_rfl) (by kernel_rfl) (by kernel_rfl) (fun _ _ _ h => h) (by rfl) ?_ (by assumption) ?_
                rotate_left
                · intro w hSw; (try dsimp only at hSw); go_simp; try (with_reducible rfl)
                try simp only [Act.put, List.setIfInBounds_toArray, List.set_cons_zero, List.set_cons_succ]
                refine GoE.take (i := 30) (v := ?_) rfl (by decide) (by kernel_rfl) (by kernel_rfl) (by kernel_rfl) (by kernel_rfl) (fun _ _ _ h => h) (by rfl) ?_ (by assumption) ?_
                rotate_left
                · intro w hSw; (try dsimp only at hSw); go_simp; try (with_reducible rfl)
                try simp only [Act.put, List.setIfInBounds_toArray, List.set_cons_zero, List.set_cons_succ]
                refine GoE.take (i := 31) (v := ?_) rfl (by decide) (by kernel_rfl) (by kernel_rfl) (by kernel_rfl) (by kernel_rfl) (fun _ _ _ h => h) (by rfl) ?_ (by assumption) ?_
                rotate_left
                · intro w hSw; (try dsimp only at hSw); go_simp; try (with_reducible rfl)
                try simp only [Act.put, List.setIfInBounds_toArray, List.set_cons_zero, List.set_cons_succ]
                refine GoE.take (i := 32) (v := ?_) rfl (by decide) (by kernel_rfl) (by kernel_rfl) (by kernel_rfl) (by kernel_rfl) (fun _ _ _ h => h) (by rfl) ?_ (by assumption) ?_
                rotate_left
                · intro w hSw; (try dsimp only at hSw); go_simp; try (with_reducible rfl)
                try simp only [Act.put, List.setIfInBounds_toArray, List.set_cons_zero, List.set_cons_succ]
                refine GoE.take (i := 33) (v := ?_) rfl (by decide) (by kernel_rfl) (by kernel_rfl) (by kernel_rfl) (by kernel_rfl) (fun _ _ _ h => h) (by rfl) ?_ (by assumption) ?_
                rotate_left
                · intro w hSw; (try dsimp only at hSw); go_simp; try (with_reducible rfl)
                try simp only [Act.put, List.setIfInBounds_toArray, List.set_cons_zero, List.set_cons_succ]
                refine GoE.one (i := 34) rfl (by kernel_rfl) (fun K hK => ?_)
                go_simp
                refine hK.out _ _ (fun h => absurd rfl h) ?_
                clear hK K
                try simp only [Act.put, List.setIfInBounds_toArray, List.set_cons_zero, List.set_cons_succ]
                refine GoE.done (by kernel_rfl) ?_
                have h8 := (SatL.tail h7).bring [1, 0, 2, 3, 4, 5, 6]
                have H8 := hid h8
                clear h5 h6 h6' h7 h8 S0 S6 S7 kD1 kB kA Hs
                go_wp2
                go_roundw
                case rel => exact ⟨j + 1, by omega, by go_num, H8.out⟩
                case measure => simp [intOf]; omega
        · obtain rfl : j = 16 := by omega
          have hkz2 : k < 16 := hk16
          have kg := get_A (k := (k : Int)) (hs.pull 1 : SatL wr (CacheA _ _ _ :: _)) (HI.out.blkOk (by omega))
          unfold AGet at kg
          have hcase := HI.out.get hk16
          have hhk := Hat.out k hk16
          have cA := Hc.out _ _ (hs.pull 2)
          obtain ⟨c0, c1, c2, c3⟩ := cA
          have hls := hid (fun (w' : World) (X : List HP) (h1 : SatL w' (Sl 9 (s16 lb) (sv s) :: X)) => (by
            have c1 := Sl.cell h1 (fv16_get _ hk16)
            rwa [Nat.zero_add] at c1 : w'.cell? ⟨lb, k, none⟩ = some (.string ⟨(s k).toArray⟩)))
          have hHas := hid (fun (w' : World) (X : List HP) (ga : Gives X (ZRow ha HL)) (h : SatL w' X) => has_ok (c := hc) (n := (k : Int)) h ga)
          generalize bget bs (k : Int) = R at *
          generalize bdata bs (k : Int) = BD at *
          have C1 : Hid (∀ (w' : World) (X : List HP), SatL w' (cl ab 44 #[.int .i64 kdi, .int .i64 (k : Nat), .int .i64 0, .int .u8 (Bi : Int)] :: X) → w'.cell? ⟨ab, 1, none⟩ = some (.int .i64 (k : Nat))) := hid (fun w' X h => (Hc.out w' X h).2.1)
          clear Hc Hat hs
          rcases hcase with ⟨hk0, rfl, rfl⟩ | ⟨bs', hk1, rfl, rfl, hI'⟩
          · as_aux_lemma =>
              have hmem : decide ((k : Int) ∈ HL) = false := decide_eq_false (fun h => by rw [hhk.1 h] at hk0; cases hk0)
              clear hk0 hhk
              go_upto_region 47 with (go_at_call 10; (with_reducible refine kg.mono ?_); rintro e5 w5 ⟨v, rfl, gv, rfl, h5⟩)
              have hs1 := sat_drew.2 h5
              have S0 := C1.out _ _ (hs1.pull 3)
              have kA := hHas.out _ _ (Gives.nx (Gives.nx Sl.gives_z)) hs1
              rw [hmem] at kA
              clear hs1 h5 kg
              refine GoE.start (fun w' => w'.cell? ⟨ab, 1, none⟩ = some (.int .i64 (k : Nat))) 20 21 rfl (by kernel_rfl) ?_
              refine GoE.take (i := 0) (v := ?_) rfl (by decide) (by kernel_rfl) (by kernel_rfl) (by kernel_rfl) (by kernel_rfl) (fun _ _ _ h => h) (by rfl) ?_ (by assumption) ?_
              rotate_left
              · intro w hSw; (try dsimp only at hSw); go_simp; try (with_reducible rfl)
              try simp only [Act.put, List.setIfInBounds_toArray, List.set_cons_zero, List.set_cons_succ]
              refine GoE.take (i := 1) (v := ?_) rfl (by decide) (by kernel_rfl) (by kernel_rfl) (by kernel_rfl) (by kernel_rfl) (fun _ _ _ h => h) (by rfl) ?_ (by assumption) ?_
              rotate_left
              · intro w hSw; (try dsimp only at hSw); go_simp; try (with_reducible rfl)
              try simp only [Act.put, List.setIfInBounds_toArray, List.set_cons_zero, List.set_cons_succ]
              refine GoE.take (i := 2) (v := ?_) rfl (by decide) (by kernel_rfl) (by kernel_rfl) (by kernel_rfl) (by kernel_rfl) (fun _ _ _ h => h) (by rfl) ?_ (by assumption) ?_
              rotate_left
              · intro w hSw; (try dsimp only at hSw); go_simp; try (with_reducible rfl)
              try simp only [Act.put, List.setIfInBounds_toArray, List.set_cons_zero, List.set_cons_succ]
              refine GoE.take (i := 3) (v := ?_) rfl (by decide) (by kernel_rfl) (by kernel_rfl) (by kernel_rfl) (by kernel_rfl) (fun _ _ _ h => h) (by rfl) ?_ (by assumption) ?_
              rotate_left
              · intro w hSw; (try dsimp only at hSw); go_simp; try (with_reducible rfl)
              try simp only [Act.put, List.setIfInBounds_toArray, List.set_cons_zero, List.set_cons_succ]
              refine GoE.take (i := 4) (v := ?_) rfl (by decide) (by kernel_rfl) (by kernel_rfl) (by kernel_rfl) (by kernel_rfl) (fun _ _ _ h => h) (by rfl) ?_ (by assumption) ?_
              rotate_left
              · intro w hSw; (try dsimp only at hSw); go_simp; try (with_reducible rfl)
              try simp only [Act.put, List.setIfInBounds_toArray, List.set_cons_zero, List.set_cons_succ]
              refine GoE.one (i := 5) rfl (by kernel_rfl) (fun K hK => ?_)
              go_simp
              go_at_call 25
              (with_reducible refine (kA).mono ?_)
              rintro e6 w6 ⟨v6, rfl, rfl, h6⟩; have S6 := C1.out _ _ (h6.pull 3)
              go_wp2_with fail
              refine hK.out _ _ (fun _ => S6) ?_
              clear hK K
              try simp only [Act.put, List.setIfInBounds_toArray, List.set_cons_zero, List.set_cons_succ]
              refine GoE.take (i := 6) (v := ?_) rfl (by decide) (by kernel_rfl) (by kernel_rfl) (by kernel_rfl) (by kernel_rfl) (fun _ _ _ h => h) (by rfl) ?_ (by assumption) ?_
              rotate_left
              · intro w hSw; (try dsimp only at hSw); go_simp; try (with_reducible rfl)
              try simp only [Act.put, List.setIfInBounds_toArray, List.set_cons_zero, List.set_cons_succ]
              refine GoE.take (i := 7) (v := ?_) rfl (by decide) (by kernel_rfl) (by kernel_rfl) (by kernel_rfl) (by kernel_rfl) (fun _ _ _ h => h) (by rfl) ?_ (by assumption) ?_
              rotate_left
              · intro w hSw; (try dsimp only at hSw); go_simp; try (with_reducible rfl)
              try simp only [Act.put, List.setIfInBounds_toArray, List.set_cons_zero, List.set_cons_succ]
              refine GoE.take (i := 8) (v := ?_) rfl (by decide) (by kernel_rfl) (by kernel_rfl) (by kernel_rfl) (by kernel_rfl) (fun _ _ _ h => h) (by rfl) ?_ (by assumption) ?_
              rotate_left
              · intro w hSw; (try dsimp only at hSw); go_simp; try (with_reducible rfl)
              try simp only [Act.put, List.setIfInBounds_toArray, List.set_cons_zero, List.set_cons_succ]
              refine GoE.take (i := 9) (v := ?_) rfl (by decide) (by kernel_rfl) (by kernel_rfl) (by kernel_rfl) (by kernel_rfl) (fun _ _ _ h => h) (by rfl) ?_ (by assumption) ?_
              rotate_left
              · intro w hSw; (try dsimp only at hSw); go_simp; try (with_reducible rfl)
              try simp only [Act.put, List.setIfInBounds_toArray, List.set_cons_zero, List.set_cons_succ]
              refine GoE.take (i := 10) (v := ?_) rfl (by decide) (by kernel_rfl) (by kernel_rfl) (by kernel_rfl) (by kernel_rfl) (fun _ _ _ h => h) (by rfl) ?_ (by assumption) ?_
              rotate_left
              · intro w hSw; (try dsimp only at hSw); go_simp; try (with_reducible rfl)
              try simp only [Act.put, List.setIfInBounds_toArray, List.set_cons_zero, List.set_cons_succ]
              refine GoE.skip (i := 11) rfl (by decide) (by kernel_rfl) (by kernel_rfl) (by kernel_rfl) (by kernel_rfl) (fun _ _ _ h => h) (by rfl) (by assumption) ?_
              try simp only [Act.put, List.setIfInBounds_toArray, List.set_cons_zero, List.set_cons_succ]
              refine GoE.skip (i := 12) rfl (by decide) (by kernel_rfl) (by kernel_rfl) (by kernel_rfl) (by kernel_rfl) (fun _ _ _ h => h) (by rfl) (by assumption) ?_
              try simp only [Act.put, List.setIfInBounds_toArray, List.set_cons_zero, List.set_cons_succ]
              refine GoE.skip (i := 13) rfl (by decide) (by kernel_rfl) (by kernel_rfl) (by kernel_rfl) (by kernel_rfl) (fun _ _ _ h => h) (by rfl) (by assumption) ?_
              try simp only [Act.put, List.setIfInBounds_toArray, List.set_cons_zero, List.set_cons_succ]
              refine GoE.skip (i := 14) rfl (by decide) (by kernel_rfl) (by kernel_rfl) (by kernel_rfl) (by kernel_rfl) (fun _ _ _ h => h) (by rfl) (by assumption) ?_
              try simp only [Act.put, List.setIfInBounds_toArray, List.set_cons_zero, List.set_cons_succ]
              refine GoE.skip (i := 15) rfl (by decide) (by kernel_rfl) (by kernel_rfl) (by kernel_rfl) (by kernel_rfl) (fun _ _ _ h => h) (by rfl) (by assumption) ?_
              try simp only [Act.put, List.setIfInBounds_toArray, List.set_cons_zero, List.set_cons_succ]
              refine GoE.skip (i := 16) rfl (by decide) (by kernel_rfl) (by kernel_rfl) (by kernel_rfl) (by kernel_rfl) (fun _ _ _ h => h) (by rfl) (by assumption) ?_
              try simp only [Act.put, List.setIfInBounds_toArray, List.set_cons_zero, List.set_cons_succ]
              refine GoE.skip (i := 17) rfl (by decide) (by kernel_rfl) (by kernel_rfl) (by kernel_rfl) (by kernel_rfl) (fun _ _ _ h => h) (by rfl) (by assumption) ?_
              try simp only [Act.put, List.setIfInBounds_toArray, List.set_cons_zero, List.set_cons_succ]
              refine GoE.skip (i := 18) rfl (by decide) (by kernel_rfl) (by kernel_rfl) (by kernel_rfl) (by kernel_rfl) (fun _ _ _ h => h) (by rfl) (by assumption) ?_
              try simp only [Act.put, List.setIfInBounds_toArray, List.set_cons_zero, List.set_cons_succ]
              refine GoE.take (i := 19) (v := ?_) rfl (by decide) (by kernel_rfl) (by kernel_rfl) (by kernel_rfl) (by kernel_rfl) (fun _ _ _ h => h) (by rfl) ?_ (by assumption) ?_
              rotate_left
              · intro w hSw; (try dsimp only at hSw); go_simp; try (with_reducible rfl)
              try simp only [Act.put, List.setIfInBounds_toArray, List.set_cons_zero, List.set_cons_succ]
              refine GoE.one (i := 20) rfl (by kernel_rfl) (fun K hK => ?_)
              go_simp
              refine hK.out _ _ (fun h => absurd rfl h) ?_
              clear hK K
              try simp only [Act.put, List.setIfInBounds_toArray, List.set_cons_zero, List.set_cons_succ]
              refine GoE.done (by kernel_rfl) ?_
              have h7 := SatL.tail (SatL.tail (SatL.tail (h6.bring [0, 2, 3, 1, 4, 5, 6])))
              have H7 := hid h7
              clear h6 h7 S0 S6 kA
              go_wp2
              go_roundw
              case rel => exact ⟨i + 1, bs, h, d, q, s, by omega, by omega, by go_num, HI.out, H7.out⟩
              case measure => simp [intOf]; omega
          · as_aux_lemma =>
              have hmem : decide ((k : Int) ∈ HL) = true := decide_eq_true (hhk.2 hk1)
              have HI2 := hid hI'
              clear hk1 hhk hI'
              obtain ⟨sb, hsb⟩ : ∃ sb : ByteArray, sb = ⟨(s k).toArray⟩ := ⟨_, rfl⟩
              rw [← hsb] at hls
              have hcv := hid (fun (w' : World) (v : Value) (X : List HP) (h : SatL w' (SlB 5 v (s k) :: X)) => (by rw [hsb]; exact RdB.conv (SlB.rd h) : (convert 29 9 v).run Try.prog w' = .ok (.string sb) w'))
              go_upto_region 47 with (go_at_call 10; (with_reducible refine kg.mono ?_); rintro e5 w5 ⟨v, rfl, gv, rfl, h5⟩)
              have hs1 := sat_drew.2 h5
              have S0 := And.intro (C1.out _ _ (hs1.pull 3)) (And.intro (hls.out _ _ (hs1.pull 4)) (hcv.out _ _ _ hs1))
              have kA := hHas.out _ _ (Gives.nx (Gives.nx Sl.gives_z)) hs1
              rw [hmem] at kA
              clear hs1 h5 kg hsb
              refine GoE.start (fun w' => w'.cell? ⟨ab, 1, none⟩ = some (.int .i64 (k : Nat)) ∧ w'.cell? ⟨lb, k, none⟩ = some (.string sb) ∧ (convert 29 9 gv).run Try.prog w' = .ok (.string sb) w') 20 21 rfl (by kernel_rfl) ?_
              refine GoE.take (i := 0) (v := ?_) rfl (by decide) (by kernel_rfl) (by kernel_rfl) (by kernel_rfl) (by kernel_rfl) (fun _ _ _ h => h) (by rfl) ?_ (by assumption) ?_
              rotate_left
              · intro w hSw; (try dsimp only at hSw); go_simp; try (with_reducible rfl)
              try simp only [Act.put, List.setIfInBounds_toArray, List.set_cons_zero, List.set_cons_succ]
              refine GoE.take (i := 1) (v := ?_) rfl (by decide) (by kernel_rfl) (by kernel_rfl) (by kernel_rfl) (by kernel_rfl) (fun _ _ _ h => h) (by rfl) ?_ (by assumption) ?_
              rotate_left
              · intro w hSw; (try dsimp only at hSw); go_simp; try (with_reducible rfl)
              try simp only [Act.put, List.setIfInBounds_toArray, List.set_cons_zero, List.set_cons_succ]
              refine GoE.take (i := 2) (v := ?_) rfl (by decide) (by kernel_rfl) (by kernel_rfl) (by kernel_rfl) (by kernel_rfl) (fun _ _ _ h => h) (by rfl) ?_ (by assumption) ?_
              rotate_left
              · intro w hSw; (try dsimp only at hSw); go_simp; try (with_reducible rfl)
              try simp only [Act.put, List.setIfInBounds_toArray, List.set_cons_zero, List.set_cons_succ]
              refine GoE.take (i := 3) (v := ?_) rfl (by decide) (by kernel_rfl) (by kernel_rfl) (by kernel_rfl) (by kernel_rfl) (fun _ _ _ h => h) (by rfl) ?_ (by assumption) ?_
              rotate_left
              · intro w hSw; (try dsimp only at hSw); go_simp; try (with_reducible rfl)
              try simp only [Act.put, List.setIfInBounds_toArray, List.set_cons_zero, List.set_cons_succ]
              refine GoE.take (i := 4) (v := ?_) rfl (by decide) (by kernel_rfl) (by kernel_rfl) (by kernel_rfl) (by kernel_rfl) (fun _ _ _ h => h) (by rfl) ?_ (by assumption) ?_
              rotate_left
              · intro w hSw; (try dsimp only at hSw); go_simp; try (with_reducible rfl)
              try simp only [Act.put, List.setIfInBounds_toArray, List.set_cons_zero, List.set_cons_succ]
              refine GoE.one (i := 5) rfl (by kernel_rfl) (fun K hK => ?_)
              go_simp
              go_at_call 25
              (with_reducible refine (kA).mono ?_)
              rintro e6 w6 ⟨v6, rfl, rfl, h6⟩; have S6 := And.intro (C1.out _ _ (h6.pull 3)) (And.intro (hls.out _ _ (h6.pull 4)) (hcv.out _ _ _ h6))
              go_wp2_with fail
              refine hK.out _ _ (fun _ => S6) ?_
              clear hK K
              try simp only [Act.put, List.setIfInBounds_toArray, List.set_cons_zero, List.set_cons_succ]
              refine GoE.take (i := 6) (v := ?_) rfl (by decide) (by kernel_rfl) (by kernel_rfl) (by kernel_rfl) (by kernel_rfl) (fun _ _ _ h => h) (by rfl) ?_ (by assumption) ?_
              rotate_left
              · intro w hSw; (try dsimp only at hSw); go_simp; try (with_reducible rfl)
              try simp only [Act.put, List.setIfInBounds_toArray, List.set_cons_zero, List.set_cons_succ]
              refine GoE.take (i := 7) (v := ?_) rfl (by decide) (by kernel_rfl) (by kernel_rfl) (by kernel_rfl) (by kernel_rfl) (fun _ _ _ h => h) (by rfl) ?_ (by assumption) ?_
              rotate_left
              · intro w hSw; (try dsimp only at hSw); go_simp; try (with_reducible rfl)
              try simp only [Act.put, List.setIfInBounds_toArray, List.set_cons_zero, List.set_cons_succ]
              refine GoE.take (i := 8) (v := ?_) rfl (by decide) (by kernel_rfl) (by kernel_rfl) (by kernel_rfl) (by kernel_rfl) (fun _ _ _ h => h) (by rfl) ?_ (by assumption) ?_
              rotate_left
              · intro w hSw; (try dsimp only at hSw); go_simp; try (with_reducible rfl)
              try simp only [Act.put, List.setIfInBounds_toArray, List.set_cons_zero, List.set_cons_succ]
              refine GoE.take (i := 9) (v := ?_) rfl (by decide) (by kernel_rfl) (by kernel_rfl) (by kernel_rfl) (by kernel_rfl) (fun _ _ _ h => h) (by rfl) ?_ (by assumption) ?_
              rotate_left
              · intro w hSw; (try dsimp only at hSw); go_simp; try (with_reducible rfl)
              try simp only [Act.put, List.setIfInBounds_toArray, List.set_cons_zero, List.set_cons_succ]
              refine GoE.take (i := 10) (v := ?_) rfl (by decide) (by kernel_rfl) (by kernel_rfl) (by kernel_rfl) (by kernel_rfl) (fun _ _ _ h => h) (by rfl) ?_ (by assumption) ?_
              rotate_left
              · intro w hSw; (try dsimp only at hSw); go_simp; try (with_reducible rfl)
              try simp only [Act.put, List.setIfInBounds_toArray, List.set_cons_zero, List.set_cons_succ]
              refine GoE.take (i := 11) (v := ?_) rfl (by decide) (by kernel_rfl) (by kernel_rfl) (by kernel_rfl) (by kernel_rfl) (fun _ _ _ h => h) (by rfl) ?_ (by assumption) ?_
              rotate_left
              · intro w hSw; (try dsimp only at hSw); go_simp; try (with_reducible rfl)
              try simp only [Act.put, List.setIfInBounds_toArray, List.set_cons_zero, List.set_cons_succ]
              refine GoE.take (i := 12) (v := ?_) rfl (by decide) (by kernel_rfl) (by kernel_rfl) (by kernel_rfl) (by kernel_rfl) (fun _ _ _ h => h) (by rfl) ?_ (by assumption) ?_
              rotate_left
              · intro w hSw; (try dsimp only at hSw); go_simp; try (with_reducible rfl)
              try simp only [Act.put, List.setIfInBounds_toArray, List.set_cons_zero, List.set_cons_succ]
              refine GoE.take (i := 13) (v := ?_) rfl (by decide) (by kernel_rfl) (by kernel_rfl) (by kernel_rfl) (by kernel_rfl) (fun _ _ _ h => h) (by rfl) ?_ (by assumption) ?_
              rotate_left
              · intro w hSw; (try dsimp only at hSw); go_simp; try (with_reducible rfl)
              try simp only [Act.put, List.setIfInBounds_toArray, List.set_cons_zero, List.set_cons_succ]
              refine GoE.take (i := 14) (v := ?_) rfl (by decide) (by kernel_rfl) (by kernel_rfl) (by kernel_rfl) (by kernel_rfl) (fun _ _ _ h => h) (by rfl) ?_ (by assumption) ?_
              rotate_left
              · intro w hSw; (try dsimp only at hSw); go_simp; try (with_reducible rfl)
              try simp only [Act.put, List.setIfInBounds_toArray, List.set_cons_zero, List.set_cons_succ]
              refine GoE.take (i := 15) (v := ?_) rfl (by decide) (by kernel_rfl) (by kernel_rfl) (by kernel_rfl) (by kernel_rfl) (fun _ _ _ h => h) (by rfl) ?_ (by assumption) ?_
              rotate_left
              · intro w hSw; (try dsimp only at hSw); go_simp; try (with_reducible rfl)
              try simp only [Act.put, List.setIfInBounds_toArray, List.set_cons_zero, List.set_cons_succ]
              refine GoE.take (i := 16) (v := ?_) rfl (by decide) (by kernel_rfl) (by kernel_rfl) (by kernel_rfl) (by kernel_rfl) (fun _ _ _ h => h) (by rfl) ?_ (by assumption) ?_
              rotate_left
              · intro w hSw; (try dsimp only at hSw); go_simp; try (with_reducible rfl)
              try simp only [Act.put, List.setIfInBounds_toArray, List.set_cons_zero, List.set_cons_succ]
              refine GoE.take (i := 17) (v := ?_) rfl (by decide) (by kernel_rfl) (by kernel_rfl) (by kernel_rfl) (by kernel_rfl) (fun _ _ _ h => h) (by rfl) ?_ (by assumption) ?_
              rotate_left
              · intro w hSw; (try dsimp only at hSw); go_simp; try (with_reducible rfl)
              try simp only [Act.put, List.setIfInBounds_toArray, List.set_cons_zero, List.set_cons_succ]
              refine GoE.take (i := 18) (v := ?_) rfl (by decide) (by kernel_rfl) (by kernel_rfl) (by kernel_rfl) (by kernel_rfl) (fun _ _ _ h => h) (by rfl) ?_ (by assumption) ?_
              rotate_left
              · intro w hSw; (try dsimp only at hSw); go_simp; try (with_reducible rfl)
              try simp only [Act.put, List.setIfInBounds_toArray, List.set_cons_zero, List.set_cons_succ]
              refine GoE.take (i := 19) (v := ?_) rfl (by decide) (by kernel_rfl) (by kernel_rfl) (by kernel_rfl) (by kernel_rfl) (fun _ _ _ h => h) (by rfl) ?_ (by assumption) ?_
              rotate_left
              · intro w hSw; (try dsimp only at hSw); go_simp; try (with_reducible rfl)
              try simp only [Act.put, List.setIfInBounds_toArray, List.set_cons_zero, List.set_cons_succ]
              refine GoE.one (i := 20) rfl (by kernel_rfl) (fun K hK => ?_)
              go_simp
              refine hK.out _ _ (fun h => absurd rfl h) ?_
              clear hK K
              try simp only [Act.put, List.setIfInBounds_toArray, List.set_cons_zero, List.set_cons_succ]
              refine GoE.done (by kernel_rfl) ?_
              have h7 := SatL.tail (SatL.tail (SatL.tail (h6.bring [0, 2, 3, 1, 4, 5, 6])))
              have H7 := hid h7
              clear h6 h7 S0 S6 kA
              go_wp2
              go_roundw
              case rel => exact ⟨i + 1, bs', h, d, q, s, by omega, by omega, by go_num, HI2.out, H7.out⟩
              case measure => simp [intOf]; omega
    · have Hs := hid hs.tail.tail.tail.tail
      clear hs hrow hI
      by_cases h1 : i < l1
      · have h2 : ¬ i < 150 := fun h => hgo ⟨h1, h⟩
        have h1z : (i : Int) < l1 := by omega
        have h2z : ¬ (i : Int) < 150 := by omega
        clear hgo
        go_wp2
        go_ret
        exact Ret.mk ⟨rfl, Hs.out⟩
      · have h1z : ¬ (i : Int) < l1 := by omega
        clear hgo
        go_wp2
        go_ret
        exact Ret.mk ⟨rfl, Hs.out⟩
end Go.Proofs.Ytlmjjfgnpcghgaa
