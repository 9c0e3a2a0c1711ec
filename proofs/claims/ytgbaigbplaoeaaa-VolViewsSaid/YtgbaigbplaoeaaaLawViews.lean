/- VolViews: for every input it returns true and writes nothing that was there. No condition. -/
import Derived.Test.YtgbaigbplaoeaaaViewE
import Derived.Test.YtgbaigbplaoeaaaKnown9
import Derived.Test.YtgbaigbplaoeaaaWithin9
import Derived.Test.YtgbaigbplaoeaaaArg
import Derived.Laws.IdiomStrings
import Derived.Deep.QuietTactic
import Derived.BigQuiet
import Derived.Deep.CutBlock
import Derived.Deep.CutRange
namespace Go.Proofs.Ytgbaigbplaoeaaa
set_option linter.unusedVariables false
set_option linter.unusedSimpArgs false
open Go.RowKit

/-- a row of ints told by a function -/
def nl (n : Nat) (f : Nat → Nat) : List Value := (List.range n).map fun j => .int .i64 (f j)
theorem nl_len (n : Nat) (f : Nat → Nat) : (nl n f).length = n := by simp [nl]
theorem nl_get {n j : Nat} {f : Nat → Nat} (h : j < n) : (nl n f)[j]? = some (.int .i64 (f j)) := by simp [nl, h]
theorem nl_set {n j : Nat} {f : Nat → Nat} (v : Nat) : (nl n f).set j (.int .i64 v) = nl n (fun t => if t = j then v else f t) := by
  apply List.ext_getElem?
  intro q
  rw [List.getElem?_set]
  by_cases hq : q < n
  · rw [nl_get hq, nl_get hq]
    by_cases hqj : j = q
    · subst hqj; rw [if_pos rfl, if_pos (by rw [nl_len]; exact hq), if_pos rfl]
    · rw [if_neg hqj, if_neg (fun e => hqj e.symm)]
  · have e : ∀ f, (nl n f)[q]? = none := fun u => List.getElem?_eq_none (by rw [nl_len]; omega)
    rw [e, e]
    split
    · rw [if_neg (by rw [nl_len]; omega)]
    · rfl
theorem nl_zero (n : Nat) : List.replicate n (Value.int .i64 0) = nl n (fun _ => 0) := by
  apply List.ext_getElem?
  intro q
  by_cases hq : q < n
  · rw [nl_get hq, List.getElem?_replicate, if_pos hq]; rfl
  · rw [List.getElem?_eq_none (by simp; omega), List.getElem?_eq_none (by rw [nl_len]; omega)]
theorem elem_int : ElemOk Try.prog 22 3 1 8 [Value.int .i64 0] := .of (z := .int .i64 0) (by kernel_rfl) (by kernel_rfl) rfl rfl (by decide) (by simp [Value.oneCell'])

section
variable {w : World} {L : List HP} {vb mb : Nat} {puts : Puts}
/-- the volume that VolViews looks at -/
def rowsV : List (Option (List UInt8)) := mkRows 200 16 0 0
theorem g200 : planGood (200 : Nat) (16 : Nat) := by unfold planGood; omega
theorem e200 : planErr (200 : Nat) (16 : Nat) = 0 := by decide
theorem rowsV_len : rowsV.length = 200 := mkRows_len
theorem rowsV_512 : Rows512 rowsV := mkRows_512
abbrev VV (vb mb : Nat) (puts : Puts) : HP := ViewR vb mb 16 70 74 rowsV puts
theorem t200 : tableN 200 = 70 := by decide
theorem d200 : dataN 200 16 = 74 := by decide
theorem madeV (h : SatL w L) : Calls Try.prog 15 #[.int .i64 200, .int .i64 16, .agg #[.int .u32 0, .int .u32 0]] w (Ret fun v w' => ∃ mb, v = .pointer (some ⟨mb, 0, none⟩) ∧ SatL w' (BaseR mb rowsV (List.replicate 200 false) :: L)) :=
  made_ok (b := 200) (i := 16) (sec := 0) (nsec := 0) g200 e200 (by omega) (by omega) h
theorem overV (h : SatL w (BaseR mb rowsV (List.replicate 200 false) :: L)) : Calls Try.prog 16 #[.pointer (some ⟨mb, 0, none⟩)] w (Ret fun v w' => ∃ vb, v = .pointer (some ⟨vb, 0, none⟩) ∧ SatL w' (VV vb mb (fun _ => none) :: L)) := by
  have ho := over_ok (mb := mb) (i := 16) (rows := rowsV) (L := L) (w := w) (by rw [rowsV_len]; exact h) (by rw [rowsV_len]; exact mkRows_0 g200 e200) (by rw [rowsV_len]; exact g200) (by rw [rowsV_len]; exact e200)
  simp only [rowsV_len, t200, d200] at ho
  exact ho
theorem getV {k : Nat} (h : SatL w (VV vb mb puts :: L)) (hk : k < 200) (hp5 : Puts512 puts) :
    Calls Try.prog 33 #[.pointer (some ⟨vb, 0, none⟩), .int .i64 k] w (Ret fun v w' => ∃ dv, v = .tuple #[dv, .nilIface] ∧ SatL w' (SlB 5 dv (viewAt rowsV puts k) :: VV vb mb puts :: L)) :=
  get_ok h (by rw [rowsV_len]; exact hk) rowsV_512 hp5 (by rw [rowsV_len]; omega)
theorem blockV {k : Nat} (h : SatL w (VV vb mb puts :: L)) (hk : k < 200) (hp : puts (k : Int) = none) :
    Calls Try.prog 34 #[.pointer (some ⟨mb, 0, none⟩), .int .i64 k] w (Ret fun v w' => ∃ dv, v = .tuple #[dv, .nilIface] ∧ SatL w' (SlB 5 dv (viewAt rowsV puts k) :: VV vb mb puts :: L)) := by
  obtain ⟨m, h1⟩ := sat_ViewR.1 h
  have hlt : k < rowsV.length := by rw [rowsV_len]; exact hk
  have hro : rowsV[k]? = some rowsV[k] := List.getElem?_eq_getElem hlt
  refine (block_ok (h1.pull 2 : SatL w (BaseR _ _ _ :: _)) hro rowsV_512 (by rw [rowsV_len]; omega)).mono ?_
  rintro e w1 ⟨v, rfl, dv, rfl, hs⟩
  have e1 : viewAt rowsV puts k = rowsV[k].getD zero512 := by unfold viewAt; rw [hp, hro]; rfl
  refine ⟨_, rfl, dv, rfl, ?_⟩
  rw [e1]
  exact (sat_ViewR.2 ⟨m, hs.bring [2, 3, 1]⟩).swap
theorem putV {k : Nat} {dv : Value} {d : List UInt8} (h : SatL w (SlB 5 dv d :: VV vb mb puts :: L)) (hk : k < 200) (hd : d.length = 512) :
    Calls Try.prog 31 #[.pointer (some ⟨vb, 0, none⟩), .int .i64 k, dv] w (Ret fun v w' => v = .nilIface ∧ SatL w' (VV vb mb (upo puts (k : Int) d) :: SlB 5 dv d :: L)) :=
  put_ok h (by rw [rowsV_len]; exact hk) hd
end
theorem viewAt_putsV {B p : Nat → Nat} {k : Nat} (hk : k < 200) (hp : p k ≠ 0) : viewAt rowsV (putsV B p) k = blkB (B (p k - 1)) (p k - 1) := by
  unfold viewAt putsV
  rw [if_pos ⟨by omega, by omega, by simpa using hp⟩]
  simp

theorem bvs_set {l : List UInt8} {j x : Nat} (hx : x < 256) : (bvs l).set j (.int .u8 (x : Int)) = bvs (l.set j (byteOf x)) := by
  have : Value.int .u8 (x : Int) = bv (byteOf x) := by rw [bv_byteOf, Nat.mod_eq_of_lt hx]
  rw [this]; exact List.map_set.symm
theorem bvs_zero512 : List.replicate 512 (Value.int .u8 0) = bvs zero512 := (bvs_zeros 512).symm
/-- a byte of a block is written -/
theorem SlB.wrO {w : World} {L : List HP} {T b o n c j x : Nat} {l : List UInt8} (h : SatL w (SlB T (.slice (some ⟨b, o, none⟩) n c) l :: L)) (hj : j < l.length) (hx : x < 256) :
    SatL (w.setCell ⟨b, o + j, none⟩ (.int .u8 (x : Int))) (SlB T (.slice (some ⟨b, o, none⟩) n c) (l.set j (byteOf x)) :: L) := by
  have h2 := Sl.set h (i := j) (by rw [bvs_len]; exact hj) (.int .u8 (x : Int))
  rw [bvs_set hx] at h2
  exact h2
theorem SlB.wr {w : World} {L : List HP} {T b n c j x : Nat} {l : List UInt8} (h : SatL w (SlB T (.slice (some ⟨b, 0, none⟩) n c) l :: L)) (hj : j < l.length) (hx : x < 256) :
    SatL (w.setCell ⟨b, j, none⟩ (.int .u8 (x : Int))) (SlB T (.slice (some ⟨b, 0, none⟩) n c) (l.set j (byteOf x)) :: L) := by
  have h2 := SlB.wrO h hj hx
  rw [Nat.zero_add] at h2
  exact h2
theorem pcells_at {ps : List Pt} : ∀ {q : Nat} {r : Pt}, ps[q]? = some r → (pcells ps)[q * 2]? = some (.int .i64 r.b) ∧ (pcells ps)[q * 2 + 1]? = some r.v := by
  induction ps with
  | nil => intro q r h; simp at h
  | cons x ps ih =>
    intro q r h
    have e : pcells (x :: ps) = .int .i64 x.b :: x.v :: pcells ps := rfl
    cases q with
    | zero => simp at h; subst h; rw [e]; exact ⟨rfl, rfl⟩
    | succ q =>
      obtain ⟨h1, h2⟩ := ih (by simpa using h)
      rw [e, show (q + 1) * 2 = q * 2 + 1 + 1 by omega]
      exact ⟨by simpa using h1, by simpa using h2⟩
theorem byteOf_lt {x : Nat} (h : x < 256) : (byteOf x).toNat = x := by rw [byteOf_nat, Nat.mod_eq_of_lt h]

/-- string(b) in whatever world holds the bytes -/
theorem convB {w : World} {L : List HP} {b off n c : Nat} {l : List UInt8} (hl : l.length = n) (h : SatL w (SlB 5 (.slice (some ⟨b, off, none⟩) n c) l :: L)) :
    (convert 23 9 (.slice (some ⟨b, off, none⟩) n c)).run Try.prog w = .ok (.string ⟨l.toArray⟩) w := by
  subst hl
  exact run_convert_bytes_back (P := Try.prog) w 23 9 5 ⟨b, off, none⟩ c l Try.underlying23 Try.underlying5 (by kernel_rfl) (by
    intro j hj
    rw [addr_add, SlB.cell h (i := j) hj]
    congr 3
    rw [List.getD_eq_getElem?_getD, List.getElem?_eq_getElem hj]
    rfl)
theorem sat_drewN {w : World} {L : List HP} (n : Nat) : SatL (w.drewN n) L ↔ SatL w L := Iff.rfl

theorem isN_q {a n : Int} (hn : n ≠ 0) (w : World) : Calls Try.prog 21 #[errno a, .int .i64 n] w fun e w' => e = .returned (.bool (a == n)) ∧ w' = w :=
  (isN_ok hn w).mono fun _ _ ⟨h1, h2⟩ => ⟨h1, h2.symm⟩

abbrev CallsRow9 (w : World) (a : Option Addr) (n : Nat) (K N : Nat → Int) (B : Nat → Nat) : Prop := IsRow w 3 a n (fun i => [.int .i64 (K i), .int .i64 (N i), .int .u8 (B i : Int)])

set_option maxRecDepth 100000 in
set_option maxHeartbeats 16000000 in
theorem views_walk (a0 : Option Addr) (l0 c0 : Nat) (K N : Nat → Int) (B : Nat → Nat) (a1 a2 : Int) (w : World) (hC : CallsRow9 w a0 l0 K N B) (hB : ∀ i, B i < 256) :
    Calls Try.prog 7 #[.slice a0 l0 c0, .int .i64 a1, .int .i64 a2] w (Ret fun v w' => v = .bool true ∧ SatL w' [old w]) := by
  have hk := known_ok (sat_old w)
  obtain ⟨hl0, hC⟩ := hC
  have hmd := fun (w1 : World) (h : SatL w1 [old w]) => madeV h
  have hov := fun (w1 : World) (mb : Nat) (h : SatL w1 (BaseR mb rowsV (List.replicate 200 false) :: [old w])) => overV h
  generalize rowsV = rv at hmd hov
  have b8 : 0 < 1 := by omega
  go_enter Try.func7, Try.ntmps7
  go_upto_block 0 with (first
    | (go_at_call 8; (with_reducible refine hk.mono ?_); rintro e w1 ⟨v, rfl, rfl, hs1⟩)
    | (go_at_call 15; (with_reducible refine (hmd _ hs1).mono ?_); rintro e w3 ⟨v, rfl, mb, rfl, hs3⟩)
    | (go_at_call 16; (with_reducible refine (hov _ _ hs3).mono ?_); rintro e w4 ⟨v, rfl, vb, rfl, hs4⟩)
    | (refine wpList_make_sl rfl (.const (.int .i64 200)) (.const (.int .i64 200)) rfl elem_int 200 rfl rfl hs4 (by omega) (by omega) ?_; intro w5 hs5))
  rw [nl_zero] at hs5
  have hz : SatL w5 (VV vb mb (putsV B (fun _ => 0)) :: Sl 3 (.slice (some ⟨w4.heap.size, 0, none⟩) 200 200) (nl 200 (fun _ => 0)) :: [old w]) := by rw [putsV_zero]; exact hs5.swap
  generalize w4.heap.size = pb at *
  clear hs1 hs3 hs4 hs5 hmd hov hk
  have Hz := hid hz
  clear hz
  go_cut [10, 11, 12] from 37 to 78 (fun _ _ _ wr => ∃ (k : Nat) (p : Nat → Nat), k ≤ l0 ∧ k ≤ 80 ∧ (∀ t, p t ≤ k) ∧ SatL wr (VV vb mb (putsV B p) :: Sl 3 (.slice (some ⟨pb, 0, none⟩) 200 200) (nl 200 p) :: [old w]))
  case first =>
   go_wp2_with fail
   have hz := Hz.out
   go_loopw [10] (fun ii wr => ∃ (k : Nat) (p : Nat → Nat), k ≤ l0 ∧ k ≤ 80 ∧ ii = .int .i64 k ∧ (∀ t, p t ≤ k) ∧ SatL wr (VV vb mb (putsV B p) :: Sl 3 (.slice (some ⟨pb, 0, none⟩) 200 200) (nl 200 p) :: [old w])) (fun ii _ => 80 - (intOf ii).toNat)
   case atStart => exact ⟨0, _, by omega, by omega, rfl, fun t => Nat.le_refl _, hz⟩
   case round =>
     clear hz
     obtain ⟨k, p, hk0, hk80, rfl, hp, hs⟩ := hrel
     by_cases hgo : k < l0 ∧ k < 80
     · as_aux_lemma =>
         obtain ⟨j0, j80⟩ := hgo
         obtain ⟨cb, co, rfl, hcc⟩ := hC (by omega)
         have ca1 := SatL.oldCell (hs.pull 2 : SatL _ (old w :: _)) ((hcc k j0).2 1 _ rfl)
         have cw2 := (hcc k j0).2 2 _ rfl
         obtain ⟨n, hn, hwn⟩ := within_nat (N k) 200 (by omega)
         have hn2 : n < 200 := by omega
         have hBk := hB k
         have zk : (0 : Int) ≤ k := by omega
         have zn : (0 : Int) ≤ n := by omega
         have hw8 : IntKind.u8.wrap (k : Int) = k := by rw [IntKind.wrap_u8']; omega
         have Hp := hid hp
         have HB := hid hB
         generalize N k = nk at *
         have hput : ∀ (w1 : World) (dv : Value) (L : List HP), SatL w1 (SlB 5 dv (blkB (B k) k) :: VV vb mb (putsV B p) :: L) → Calls Try.prog 31 #[.pointer (some ⟨vb, 0, none⟩), .int .i64 n, dv] w1 (Ret fun v w' => v = .nilIface ∧ SatL w' (VV vb mb (putsV B (fun t => if t = n then k + 1 else p t)) :: SlB 5 dv (blkB (B k) k) :: L)) := by
           intro w1 dv L h
           have := putV h hn2 (blkB_len _ _)
           rwa [putsV_put B p hn2] at this
         have hst : ∀ (w1 : World) (b : Nat) (L : List HP), SatL w1 (Sl 5 (.slice (some ⟨b, 0, none⟩) 512 512) (List.replicate 512 (.int .u8 0)) :: L) → (w1.cell? ⟨b, 9, none⟩ = some (.int .u8 0) ∧ w1.frozen? ⟨b, 9, none⟩ = false ∧ (w1.setCell ⟨b, 9, none⟩ (.int .u8 (B k : Int))).cell? ⟨b, 10, none⟩ = some (.int .u8 0) ∧ (w1.setCell ⟨b, 9, none⟩ (.int .u8 (B k : Int))).frozen? ⟨b, 10, none⟩ = false ∧ SatL ((w1.setCell ⟨b, 9, none⟩ (.int .u8 (B k : Int))).setCell ⟨b, 10, none⟩ (.int .u8 (k : Int))) (SlB 5 (.slice (some ⟨b, 0, none⟩) 512 512) (blkB (B k) k) :: L)) := by
           intro w1 b L h
           rw [bvs_zero512] at h
           have h1 : SatL w1 (SlB 5 (.slice (some ⟨b, 0, none⟩) 512 512) zero512 :: L) := h
           have h2 := SlB.wr h1 (j := 9) (x := B k) (by rw [zero512_len]; omega) hBk
           have h3 := SlB.wr h2 (j := 10) (x := k) (by rw [List.length_set, zero512_len]; omega) (by omega)
           have q1 := SlB.cell h1 (i := 9) (by rw [zero512_len]; omega)
           have q2 := SlB.cell h2 (i := 10) (by rw [List.length_set, zero512_len]; omega)
           have e1 : zero512.getD 9 0 = 0 := by unfold zero512; rw [List.getD_eq_getElem?_getD, List.getElem?_replicate, if_pos (by omega)]; rfl
           have e2 : (zero512.set 9 (byteOf (B k))).getD 10 0 = 0 := by rw [List.getD_eq_getElem?_getD, List.getElem?_set, if_neg (by omega)]; unfold zero512; rw [List.getElem?_replicate, if_pos (by omega)]; rfl
           rw [e1, Nat.zero_add] at q1
           rw [e2, Nat.zero_add] at q2
           exact ⟨q1, Sl.free h1 9, q2, Sl.free h2 10, h3⟩
         have hst2 : ∀ (w1 : World) (b : Nat) (L : List HP), SatL w1 (VV vb mb (putsV B (fun t => if t = n then k + 1 else p t)) :: SlB 5 (.slice (some ⟨b, 0, none⟩) 512 512) (blkB (B k) k) :: Sl 3 (.slice (some ⟨pb, 0, none⟩) 200 200) (nl 200 p) :: L) → ((∃ x, w1.cell? ⟨b, 9, none⟩ = some (.int .u8 x)) ∧ w1.frozen? ⟨b, 9, none⟩ = false ∧ (∃ x, (w1.setCell ⟨b, 9, none⟩ (.int .u8 0)).cell? ⟨b, 10, none⟩ = some (.int .u8 x)) ∧ (w1.setCell ⟨b, 9, none⟩ (.int .u8 0)).frozen? ⟨b, 10, none⟩ = false ∧ ((w1.setCell ⟨b, 9, none⟩ (.int .u8 0)).setCell ⟨b, 10, none⟩ (.int .u8 0)).cell? ⟨pb, n, none⟩ = some (.int .i64 (p n)) ∧ ((w1.setCell ⟨b, 9, none⟩ (.int .u8 0)).setCell ⟨b, 10, none⟩ (.int .u8 0)).frozen? ⟨pb, n, none⟩ = false ∧
             SatL (((w1.setCell ⟨b, 9, none⟩ (.int .u8 0)).setCell ⟨b, 10, none⟩ (.int .u8 0)).setCell ⟨pb, n, none⟩ (.int .i64 ((k : Int) + 1))) (VV vb mb (putsV B (fun t => if t = n then k + 1 else p t)) :: Sl 3 (.slice (some ⟨pb, 0, none⟩) 200 200) (nl 200 (fun t => if t = n then k + 1 else p t)) :: L)) := by
           intro w1 b L h
           have h1 : SatL w1 (SlB 5 (.slice (some ⟨b, 0, none⟩) 512 512) (blkB (B k) k) :: VV vb mb (putsV B (fun t => if t = n then k + 1 else p t)) :: Sl 3 (.slice (some ⟨pb, 0, none⟩) 200 200) (nl 200 p) :: L) := h.swap
           have h2 := SlB.wr h1 (j := 9) (x := 0) (by rw [blkB_len]; omega) (by omega)
           have h3 := SlB.wr h2 (j := 10) (x := 0) (by rw [List.length_set, blkB_len]; omega) (by omega)
           have h4 := Sl.set (h3.pull 2 : SatL _ (Sl 3 (.slice (some ⟨pb, 0, none⟩) 200 200) (nl 200 p) :: _)) (i := n) (by rw [nl_len]; exact hn2) (.int .i64 ((k + 1 : Nat) : Int))
           rw [nl_set, Nat.zero_add] at h4
           have q3 := Sl.cell (h3.pull 2 : SatL _ (Sl 3 (.slice (some ⟨pb, 0, none⟩) 200 200) (nl 200 p) :: _)) (i := n) (nl_get hn2)
           rw [Nat.zero_add] at q3
           have q1 := SlB.cell h1 (i := 9) (by rw [blkB_len]; omega)
           have q2 := SlB.cell h2 (i := 10) (by rw [List.length_set, blkB_len]; omega)
           rw [Nat.zero_add] at q1 q2
           exact ⟨⟨_, q1⟩, Sl.free h1 9, ⟨_, q2⟩, Sl.free h2 10, q3, Sl.free (h3.pull 2 : SatL _ (Sl 3 (.slice (some ⟨pb, 0, none⟩) 200 200) (nl 200 p) :: _)) n, SatL.tail (h4.bring [1, 2, 0])⟩
         have Hst := hid hst
         have Hst2 := hid hst2
         have k80 : (k : Int) < 80 := by omega
         have kl0 : (k : Int) < l0 := by omega
         have n200 : (n : Int) < 200 := by omega
         clear hC hcc hp hB hst hst2
         go_wp2_with (first
           | (go_at_call 14; (with_reducible refine (hwn _).mono ?_); rintro e w6 ⟨rfl, rfl⟩)
           | (refine wpList_make_sl rfl (.const (.int .i64 512)) (.const (.int .i64 512)) rfl elem_byte 512 rfl rfl hs (by omega) (by omega) ?_; intro w6 hs6; have ca3 := SatL.oldCell (SatL.pull hs6 3 : SatL _ (old w :: _)) cw2; obtain ⟨q1, q2, q3, q4, hs7⟩ := Hst.out _ _ _ hs6)
           | (go_at_call 31; (with_reducible refine (hput _ _ _ hs7).mono ?_); rintro e w7 ⟨v, rfl, rfl, hs8⟩; obtain ⟨⟨x1, y1⟩, y2, ⟨x3, y3⟩, y4, y5, y6, hs9⟩ := Hst2.out _ _ _ hs8))
         go_roundw
         case rel =>
           exact ⟨k + 1, _, by omega, by omega, by go_num, fun t => by by_cases e : t = n; (rw [if_pos e]; exact Nat.le_refl _); (rw [if_neg e]; have := Hp.out t; omega), hs9⟩
         case measure => simp [intOf]; omega
     · have hgo2 : ¬ (k : Int) < l0 ∨ ((k : Int) < l0 ∧ ¬ (k : Int) < 80) := by omega
       have Hp := hid hp
       clear hp
       rcases hgo2 with hgo2 | ⟨hgo1, hgo2⟩
       all_goals
         go_wp2_with fail
         go_meet
         case rel => exact ⟨k, p, hk0, hk80, Hp.out, hs⟩
  case rest =>
      obtain ⟨k, p, hk0, hk80, hp, hs⟩ := hcut
      have hPu := puts_ok hs (fun j hj => by rw [rowsV_len]; have := putsV_some.1 hj; omega) (putsV_512 _ _) (by rw [rowsV_len]; omega)
      · clear Hz
        have hC' := hid hC
        have Hp := hid hp
        have HB := hid hB
        clear hC hp hB
        go_wp2_with (go_at_call 32; (with_reducible refine hPu.mono ?_); rintro e w6 ⟨lv, rfl, ks, hks, hs6⟩)
        obtain rfl := PutKeys.unique hks (putKeysV B p)
        obtain ⟨ps, hps, hs7⟩ := sat_PutsL.1 hs6
        have hpl : ps.length = (putAt p 200).length := by have := congrArg List.length hps; simpa [putList] using this
        obtain ⟨la, lc, rfl, q1, q2⟩ := SlK.valn (sat_PutsR.1 hs7)
        have Hps := hid hps
        have Hpl := hid hpl
        clear hs hPu hs6 hps hpl hks
        have hs8 : SatL w6 (VV vb mb (putsV B p) :: Sl 3 (.slice (some ⟨pb, 0, none⟩) 200 200) (nl 200 p) :: PutsR (.slice la ps.length lc) ps :: [old w]) := hs7.bring [1, 2, 0]
        clear hs7
        go_loopw [14, 15] (fun kv nv wr => ∃ n : Nat, n ≤ 200 ∧ nv = .int .i64 n ∧ kv = .int .i64 (putAt p n).length ∧ SatL wr (VV vb mb (putsV B p) :: Sl 3 (.slice (some ⟨pb, 0, none⟩) 200 200) (nl 200 p) :: PutsR (.slice la ps.length lc) ps :: [old w])) (fun _ nv _ => 200 - (intOf nv).toNat)
        case atStart => exact ⟨0, by omega, rfl, rfl, hs8⟩
        case round =>
          clear hs8
          obtain ⟨n, hn, rfl, rfl, hs⟩ := hrel
          by_cases hn2 : n < 200
          · have hgV := fun (w1 : World) (L : List HP) (h : SatL w1 (VV vb mb (putsV B p) :: L)) => getV h hn2 (putsV_512 B p)
            have cp := Sl.cell (hs.pull 1 : SatL _ (Sl 3 (.slice (some ⟨pb, 0, none⟩) 200 200) (nl 200 p) :: _)) (i := n) (nl_get hn2)
            rw [Nat.zero_add] at cp
            have hvl : (viewAt rowsV (putsV B p) n).length = 512 := viewAt_len rowsV_512 (putsV_512 B p) n
            have z0 : (0 : Int) ≤ n := by omega
            have z1 : (n : Int) < 200 := by omega
            have hsucc := putAt_succ p n
            by_cases hpn : p n = 0
            · as_aux_lemma =>
                have hbV := fun (w1 : World) (L : List HP) (h : SatL w1 (VV vb mb (putsV B p) :: L)) => blockV h hn2 (by unfold putsV; rw [if_neg (by simp [hpn])])
                rw [hpn] at cp
                rw [if_pos hpn, List.append_nil] at hsucc
                have Hsucc := hid hsucc
                have hcv := fun (w1 : World) (b off c : Nat) (L : List HP) (h : SatL w1 (SlB 5 (.slice (some ⟨b, off, none⟩) 512 c) (viewAt rowsV (putsV B p) n) :: L)) => convB hvl h
                have Hvl := hid hvl
                generalize viewAt rowsV (putsV B p) n = d at *
                generalize (⟨d.toArray⟩ : ByteArray) = ds at *
                generalize hkk : (putAt p n).length = kk at *
                have Hkk := hid hkk
                have Hp0 := hid (show ((p n : Nat) : Int) = 0 by rw [hpn]; rfl)
                rw [show ((0 : Nat) : Int) = 0 from rfl] at cp
                clear hpn hsucc hvl hkk
                go_wp2_with (first
                  | (go_at_call 33; (with_reducible refine (hgV _ _ hs).mono ?_); rintro e w7 ⟨v, rfl, dv, rfl, hs9⟩; obtain ⟨da, dc, rfl, q3, q4⟩ := Sl.valn hs9 (m := 512) (by rw [bvs_len, Hvl.out]); obtain ⟨db, do_, rfl⟩ := Sl.addr hs9 (by omega); have cp2 := Sl.cell (SatL.pull hs9 2 : SatL _ (Sl 3 (.slice (some ⟨pb, 0, none⟩) 200 200) (nl 200 p) :: _)) (i := n) (nl_get hn2); rw [Nat.zero_add, Hp0.out] at cp2)
                  | (go_at_call 34; (with_reducible refine (hbV _ _ (SatL.swap hs9)).mono ?_); rintro e w8 ⟨v, rfl, dv2, rfl, hs10⟩; obtain ⟨ea, ec, rfl, q5, q6⟩ := Sl.valn hs10 (m := 512) (by rw [bvs_len, Hvl.out]); obtain ⟨eb, eo, rfl⟩ := Sl.addr hs10 (by omega); have v1 := hcv _ _ _ _ _ hs10; have v2 := hcv _ _ _ _ _ (SatL.pull hs10 2 : SatL w8 (SlB _ _ _ :: _))))
                go_roundw
                case rel => exact ⟨n + 1, by omega, by go_num, by rw [Hsucc.out, Hkk.out], SatL.tail (SatL.tail (hs10.bring [0, 2, 1, 3, 4, 5]))⟩
                case measure => simp [intOf]; omega
            · as_aux_lemma =>
                obtain ⟨j, hj⟩ : ∃ j, p n = j + 1 := ⟨p n - 1, by omega⟩
                have hjk : j < k := by have := Hp.out n; omega
                obtain ⟨cb, co, rfl, hcc⟩ := hC'.out (by omega)
                have cw2 := (hcc j (by omega)).2 2 _ rfl
                have hva : viewAt rowsV (putsV B p) n = blkB (B j) j := by rw [viewAt_putsV hn2 hpn, hj]; rfl
                rw [hva] at hgV
                obtain ⟨hg1, hg2⟩ := putAt_get hn2 hpn
                rw [if_neg hpn] at hsucc
                have hsl : (putAt p (n + 1)).length = (putAt p n).length + 1 := by rw [hsucc, List.length_append]; rfl
                have Hsl := hid hsl
                have hkps : (putAt p n).length < ps.length := by rw [Hpl.out]; exact hg2
                obtain ⟨r, hr⟩ : ∃ r, ps[(putAt p n).length]? = some r := ⟨_, List.getElem?_eq_getElem hkps⟩
                have hrbd : r.b = (n : Int) ∧ r.d = blkB (B j) j := by
                  have h1 := congrArg (fun z => z[(putAt p n).length]?) Hps.out
                  simp only [putList, List.getElem?_map, hr, hg1, Option.map_some, Option.some.injEq, Prod.mk.injEq] at h1
                  refine ⟨h1.1, ?_⟩
                  rw [h1.2]
                  unfold putsV
                  rw [if_pos ⟨by omega, by omega, by simpa using hpn⟩]
                  simp [hj]
                obtain ⟨rb, rv, rd⟩ := r
                obtain ⟨rfl, rfl⟩ := hrbd
                have hBj := HB.out j
                have hbl := blkB_len (B j) j
                have g9 := blkB_9 (B j) j
                have g10 := blkB_10 (B j) j
                have hj80 : j < 80 := by omega
                obtain ⟨hc1, hc2⟩ := pcells_at hr
                have cp9 : wr.cell? ⟨pb, n, none⟩ = some (.int .i64 ((j : Int) + 1)) := by rw [cp, hj]; rfl
                generalize hkk : (putAt p n).length = kk at *
                have Hkk := hid hkk
                have w1 : IntKind.i64.wrap ((j : Int) + 1 - 1) = j := IntWalk.i64_in _ (by omega) |>.trans (by omega)
                have w3 : IntKind.i64.wrap (j : Int) = j := IntWalk.i64_in _ (by omega)
                have w2 : IntKind.u8.wrap (j : Int) = j := by rw [IntKind.wrap_u8']; omega
                have z2 : (0 : Int) ≤ j := by omega
                have z3 : (j : Int) < l0 := by omega
                have z4 : (0 : Int) ≤ kk := by omega
                have z5 : (kk : Int) < ps.length := by omega
                have z6 : (kk : Int) ≤ 200 := by have := putAt_le p n; omega
                have hcv := fun (w1 : World) (b off c : Nat) (L : List HP) (h : SatL w1 (SlB 5 (.slice (some ⟨b, off, none⟩) 512 c) (blkB (B j) j) :: L)) => convB hbl h
                have Hnx := hid hpn
                have Hpj := hid (show ((p n : Nat) : Int) = (j : Int) + 1 by rw [hj]; rfl)
                have hsl0 := sat_PutsR.1 (hs.pull 2 : SatL _ (PutsR _ _ :: _))
                rcases SlK.form hsl0 with ⟨hv, h0, _⟩ | ⟨lb, lo, cap, hv, _, _, _⟩
                · omega
                cases hv
                have hbg := (big_get hr).1 (hsl0.pull 1 : SatL _ (big _ ps :: _))
                obtain ⟨xa, xc, rfl, x1, x2⟩ := Sl.valn hbg (m := 512) (by rw [bvs_len, hbl])
                obtain ⟨xb, xo, rfl⟩ := Sl.addr hbg (by omega)
                clear hbg hsl0
                clear hcc hpn hj hva hsucc hsl hkk hg1 hg2 cp
                generalize (⟨(blkB (B j) j).toArray⟩ : ByteArray) = ds at *
                go_wp2_with (first
                  | (go_at_call 33; (with_reducible refine (hgV _ _ hs).mono ?_); rintro e w7 ⟨v, rfl, dv, rfl, hs9⟩; obtain ⟨da, dc, rfl, q3, q4⟩ := Sl.valn hs9 (m := 512) (by rw [bvs_len, hbl]); obtain ⟨db, do_, rfl⟩ := Sl.addr hs9 (by omega); have cp2 := Sl.cell (SatL.pull hs9 2 : SatL _ (Sl 3 (.slice (some ⟨pb, 0, none⟩) 200 200) (nl 200 p) :: _)) (i := n) (nl_get hn2); rw [Nat.zero_add, Hpj.out] at cp2))
                have b9 := SlB.cell hs9 (i := 9) (by rw [hbl]; omega)
                have b10 := SlB.cell hs9 (i := 10) (by rw [hbl]; omega)
                rw [g9, byteOf_lt hBj] at b9
                rw [g10, byteOf_lt (by omega)] at b10
                have cw3 := SatL.oldCell (hs9.pull 4 : SatL _ (old w :: _)) cw2
                have hsL := sat_PutsR.1 (hs9.pull 3 : SatL _ (PutsR _ _ :: _))
                have lc0 := SlK.cell hsL hc1
                have lc1 := SlK.cell hsL hc2
                rw [← Nat.add_assoc] at lc1
                have v1 := fun m => hcv (w7.drewN m) _ _ _ _ ((sat_drewN m).2 hs9)
                have v2 := fun m => hcv (w7.drewN m) _ _ _ _ ((sat_drewN m).2 ((big_get hr).1 (hsL.pull 1 : SatL _ (big _ ps :: _))))
                have f9 := Sl.free hs9 (do_ + 9)
                have Hs9 := hid hs9
                have e9 : IntKind.u8.wrap ((B j : Int) + 1) = ((B j + 1) % 256 : Nat) := by rw [IntKind.wrap_u8']; push_cast; rfl
                clear hsL hs9 hs hcv hr hc1 hc2 g9 g10 hbl cp9
                have Hset := hid (fun (m : Nat) (x : Value) => SatL.swap (Sl.set ((sat_drewN m).2 Hs9.out) (i := 9) (by rw [bvs_len, blkB_len]; omega) x))
                have hne : ((B j : Int) == ((B j : Int) + 1) % 256) = false := by simp; omega
                go_quiet (fail)
                clear v1 v2 lc0 lc1 cw3 e9
                go_wp2_with (go_at_call 33; (with_reducible refine (hgV _ _ (Hset.out _ _)).mono ?_); rintro e w9 ⟨v, rfl, dv2, rfl, hs12⟩; obtain ⟨ga, gc, rfl, q5, q6⟩ := Sl.valn hs12 (m := 512) (by rw [bvs_len, blkB_len]); obtain ⟨gb, go_, rfl⟩ := Sl.addr hs12 (by omega))
                have c9 := SlB.cell hs12 (i := 9) (by rw [blkB_len]; omega)
                rw [blkB_9, byteOf_lt hBj] at c9
                have d9 := Sl.cell (hs12.pull 2 : SatL w9 (Sl _ (.slice (some ⟨db, do_, none⟩) 512 dc) _ :: _)) (i := 9) (by rw [List.getElem?_set, if_pos rfl, if_pos (by rw [bvs_len, blkB_len]; omega)])
                have Hs12 := hid hs12
                clear hs12
                go_quiet (fail)
                go_wp2
                go_roundw
                case rel => exact ⟨n + 1, by omega, by go_num, by rw [Hsl.out]; go_num, (sat_drewN _).2 (SatL.tail (SatL.tail (Hs12.out.bring [0, 2, 1, 3, 4, 5])))⟩
                case measure => simp [intOf]; omega
          · obtain rfl : n = 200 := by omega
            have hkk : (putAt p 200).length = ps.length := Hpl.out.symm
            rw [hkk]
            obtain ⟨n3, hn3, hw3⟩ := within_nat a2 512 (by omega)
            have hps := fun (w1 : World) (a : Option Addr) (c : Nat) (L : List HP) (pu : Puts) (h : SatL w1 (VV vb mb pu :: L)) => put_size (k := 3) (n := n3) (a := a) (c := c) h (by rw [rowsV_len]; omega) (by omega)
            rw [show ((3 : Nat) : Int) = 3 from rfl] at hps
            have hq14 := fun (w1 : World) (m : Nat) => isN_q (a := 14) (n := 14) (by omega) (w1.drewN m)
            have hq1 := fun (w1 : World) (m : Nat) => isN_q (a := 1) (n := 1) (by omega) (w1.drewN m)
            have n3b : n3 * 1 ≤ 281474976710656 := by omega
            have n3c : n3 ≤ 4611686018427387904 := by omega
            clear hkk hn2 hn
            by_cases hat : 0 ≤ a1 ∧ a1 < 200
            · as_aux_lemma =>
                obtain ⟨a, rfl⟩ : ∃ a : Nat, a1 = a := ⟨a1.toNat, by omega⟩
                have ha2 : a < 200 := by omega
                have z0 : (0 : Int) ≤ a := by omega
                have z1 : (a : Int) < 200 := by omega
                have hgV := fun (w1 : World) (L : List HP) (h : SatL w1 (VV vb mb (putsV B p) :: L)) => getV h ha2 (putsV_512 B p)
                have hpV := fun (w1 : World) (dv : Value) (L : List HP) (h : SatL w1 (SlB 5 dv zero512 :: VV vb mb (putsV B p) :: L)) => putV h ha2 zero512_len
                have t0 : True := trivial
                have t1 : True := trivial
                clear hat
                go_wp2_with (first
                  | (go_at_call 33; (with_reducible refine (hgV _ _ hs).mono ?_); rintro e w7 ⟨v, rfl, dv, rfl, hs9⟩)
                  | (have _t := t0; refine wpList_make_sl rfl (.const (.int .i64 512)) (.const (.int .i64 512)) rfl elem_byte 512 rfl rfl hs9 (by omega) (by omega) ?_; intro w8 hs10; clear t0; rw [bvs_zero512] at hs10)
                  | (have _t := t1; go_at_call 31; (with_reducible refine (hpV _ _ _ (SatL.bring hs10 [0, 2])).mono ?_); rintro e w9 ⟨v, rfl, rfl, hs11⟩; clear t1)
                  | (go_at_call 14; (with_reducible refine (hw3 _).mono ?_); rintro e w10 ⟨rfl, rfl⟩)
                  | (refine wpList_make_sl rfl (.tmp 198) (.tmp 198) rfl elem_byte n3 rfl rfl hs11 n3b n3c ?_; intro w11 hs12)
                  | (go_at_call 31; (with_reducible refine (hps _ _ _ _ _ (SatL.swap hs12)).mono ?_); rintro e w12 ⟨v, rfl, rfl, hs13⟩))
                have Hs13 := hid hs13
                clear hs hs9 hs10 hs11 hs12 hs13 hgV hpV hps hw3
                go_quiet ((go_at_call 21; (with_reducible exact Calls.quiet_of_same (hq14 _ _))))
                go_wp2
                go_ret
                refine Ret.mk ⟨rfl, (sat_drewN _).2 ?_⟩
                exact Hs13.out.to
            · as_aux_lemma =>
                have hat2 : a1 < 0 ∨ (200 : Int) ≤ a1 := by omega
                have hgA := fun (w1 : World) (L : List HP) (h : SatL w1 (VV vb mb (putsV B p) :: L)) => get_arg (k := a1) h (by rw [rowsV_len]; exact hat2)
                have hpA := fun (w1 : World) (dv : Value) (L : List HP) (h : SatL w1 (VV vb mb (putsV B p) :: L)) => put_arg (k := a1) (dv := dv) h (by rw [rowsV_len]; exact hat2)
                have hat3 : (a1 < 0 ∧ decide (0 ≤ a1) = false) ∨ (0 ≤ a1 ∧ ¬ a1 < 200 ∧ decide (0 ≤ a1) = true ∧ decide (a1 < 200) = false) := by
                  by_cases h : a1 < 0
                  · exact .inl ⟨h, by simp; omega⟩
                  · exact .inr ⟨by omega, by omega, by simp; omega, by simp; omega⟩
                have t0 : True := trivial
                have t1 : True := trivial
                clear hat hat2
                rcases hat3 with ⟨hat, g1⟩ | ⟨hat, hat2, g1, g2⟩
                all_goals
                  go_wp2_with (first
                    | (go_at_call 33; (with_reducible refine (hgA _ _ hs).mono ?_); rintro e w7 ⟨v, rfl, rfl, hs9⟩)
                    | (have _t := t0; refine wpList_make_sl rfl (.const (.int .i64 512)) (.const (.int .i64 512)) rfl elem_byte 512 rfl rfl hs9 (by omega) (by omega) ?_; intro w8 hs10; clear t0)
                    | (have _t := t1; go_at_call 31; (with_reducible refine (hpA _ _ _ (SatL.swap hs10)).mono ?_); rintro e w9 ⟨v, rfl, rfl, hs11⟩; clear t1)
                    | (go_at_call 14; (with_reducible refine (hw3 _).mono ?_); rintro e w10 ⟨rfl, rfl⟩)
                    | (refine wpList_make_sl rfl (.tmp 198) (.tmp 198) rfl elem_byte n3 rfl rfl hs11 n3b n3c ?_; intro w11 hs12)
                    | (go_at_call 31; (with_reducible refine (hps _ _ _ _ _ (SatL.swap hs12)).mono ?_); rintro e w12 ⟨v, rfl, rfl, hs13⟩))
                  have Hs13 := hid hs13
                  clear hs hs9 hs10 hs11 hs12 hs13 hgA hpA hps hw3
                  go_quiet ((go_at_call 21; first | (with_reducible exact Calls.quiet_of_same (hq1 _ _)) | (with_reducible exact Calls.quiet_of_same (hq14 _ _))))
                  go_wp2
                  go_ret
                  refine Ret.mk ⟨rfl, (sat_drewN _).2 ?_⟩
                  exact Hs13.out.to
end Go.Proofs.Ytgbaigbplaoeaaa
