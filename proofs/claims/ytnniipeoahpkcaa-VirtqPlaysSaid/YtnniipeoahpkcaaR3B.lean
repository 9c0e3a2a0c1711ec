/- The document's queue: what both sides own; NewDriver, NewDevice, Free. No condition beside the sizes that each names. -/
import Derived.Test.YtnniipeoahpkcaaR3A
import Derived.Test.YtnniipeoahpkcaaVqG
namespace Go.Proofs.Ytnniipeoahpkcaa
set_option linter.unusedVariables false
set_option linter.unusedSimpArgs false
open Go.RowKit
def chRow (rs : List (Rf (List Nat))) : List Value := rs.flatMap fun r => [.int .i64 r.k, r.v]
theorem chRow_len (rs : List (Rf (List Nat))) : (chRow rs).length = rs.length * 2 := by
  unfold chRow
  induction rs with
  | nil => rfl
  | cons r rs ih => rw [List.flatMap_cons, List.length_append, ih]; simp; omega
def ChL (fv : Value) (rs : List (Rf (List Nat))) : HP := SlK 95 2 fv rs.length (chRow rs)
def xdrvV (mb o N c : Nat) (r : Ring) (tv fv : Value) : List Value := [.slice (some ⟨mb, o, none⟩) N c, .int .i64 r.base, .int .i64 r.n, tv, .int .i64 r.off, .int .i64 r.use, fv]
def XDevR (vb mb o N c : Nat) (r : Ring) : HP := cl vb 103 #[.slice (some ⟨mb, o, none⟩) N c, .int .i64 r.base, .int .i64 r.n, .int .i64 r.off, .int .i64 r.use]
def XDrvR (db mb o N c : Nat) (d : Dr) : HP := ex fun tv => ex fun fv => ex fun rs : List (Rf (List Nat)) => sep [pur (d.ch = ofget rs ∧ (rs.map (·.k)).Nodup), cl db 89 (xdrvV mb o N c d.r tv fv).toArray, Sl 4 tv (d.busy.map Value.bool), ChL fv rs, big (fun r : Rf (List Nat) => NatsL r.v r.xs) rs]
theorem lzero_step {m : List UInt8} {base j : Nat} (h : base + j < m.length) : (bvs (lzero m base j)).set (base + j) (.int .u8 0) = bvs (lzero m base (j + 1)) := by
  have e1 : (m.take base ++ List.replicate j 0).length = base + j := by rw [List.length_append, List.length_take, List.length_replicate]; omega
  have e2 : m.drop (base + j) = m[base + j] :: m.drop (base + (j + 1)) := by rw [List.drop_eq_getElem_cons h]; rfl
  unfold lzero bvs
  rw [e2, List.replicate_succ', List.map_append, List.set_append_right _ _ (by rw [List.length_map, e1]; exact Nat.le_refl _), List.length_map, e1, Nat.sub_self]
  simp [bv]
section
variable {w : World} {L : List HP} {db vb mb o N c : Nat}
theorem sat_XDrvR {d : Dr} : SatL w (XDrvR db mb o N c d :: L) ↔ ∃ tv fv rs, (d.ch = ofget rs ∧ (rs.map (·.k)).Nodup) ∧ SatL w (cl db 89 (xdrvV mb o N c d.r tv fv).toArray :: Sl 4 tv (d.busy.map Value.bool) :: ChL fv rs :: big (fun r : Rf (List Nat) => NatsL r.v r.xs) rs :: L) := by
  simp only [XDrvR, sat_ex, sat_sep, List.cons_append, List.nil_append, sat_pur]
set_option maxRecDepth 100000 in
theorem refnewdev_ok {base n : Nat} (hp : pow2 n = true) (hf : base + qs n ≤ N) (hN : N ≤ 1000000) (h : SatL w L) :
    Calls Try.prog 31 #[.slice (some ⟨mb, o, none⟩) N c, .int .i64 base, .int .i64 n] w (Ret fun r w' => ∃ vb, r = .tuple #[.pointer (some ⟨vb, 0, none⟩), .int .i64 0] ∧ SatL w' (XDevR vb mb o N c ⟨base, n, 0, 0⟩ :: L)) := by
  have hq : qsize (n : Int) = qs n := by unfold qsize qs; rw [if_pos ⟨by omega, hp⟩]; rfl
  have hn := pow2_le hp
  have ha := fits_ok (a := some ⟨mb, o, none⟩) (N := N) (c := c) (base := base) (n := n) (by omega) hN w
  rw [decide_eq_true (show atFits N base n from ⟨by rw [hq]; unfold qs; omega, by omega, by rw [hq]; omega⟩)] at ha
  unfold XDevR
  clear hp hf hq hN
  go_enter Try.func31, Try.ntmps31
  go_wp2_with (first | (go_at_call 41; (with_reducible refine ha.mono ?_); rintro e w2 ⟨v, rfl, rfl, rfl⟩))
  go_ret2
  exact Ret.mk ⟨_, rfl, h.alloc _⟩
set_option maxRecDepth 100000 in
theorem refnewdev_no {a : Option Addr} {base n : Int} (hr : -9223372036854775808 ≤ base ∧ base ≤ 9223372036854775807) (hf : ¬ atFits N base n) (hN : N ≤ 1000000) (w : World) :
    Calls Try.prog 31 #[.slice a N c, .int .i64 base, .int .i64 n] w (Ret fun r w' => r = .tuple #[.pointer none, .int .i64 1] ∧ w = w') := by
  have ha := fits_ok (a := a) (N := N) (c := c) (base := base) (n := n) hr hN w
  rw [decide_eq_false hf] at ha
  clear hf
  go_enter Try.func31, Try.ntmps31
  go_wp2_with (first | (go_at_call 41; (with_reducible refine ha.mono ?_); rintro e w2 ⟨v, rfl, rfl, rfl⟩))
  go_ret2
  exact Ret.mk ⟨rfl, rfl⟩
set_option maxRecDepth 100000 in
theorem refnewdrv_no {a : Option Addr} {base n : Int} (hr : -9223372036854775808 ≤ base ∧ base ≤ 9223372036854775807) (hf : ¬ atFits N base n) (hN : N ≤ 1000000) (w : World) :
    Calls Try.prog 30 #[.slice a N c, .int .i64 base, .int .i64 n] w (Ret fun r w' => r = .tuple #[.pointer none, .int .i64 1] ∧ w = w') := by
  have ha := fits_ok (a := a) (N := N) (c := c) (base := base) (n := n) hr hN w
  rw [decide_eq_false hf] at ha
  clear hf
  go_enter Try.func30, Try.ntmps30
  go_wp2_with (first | (go_at_call 41; (with_reducible refine ha.mono ?_); rintro e w2 ⟨v, rfl, rfl, rfl⟩))
  go_ret2
  exact Ret.mk ⟨rfl, rfl⟩
set_option maxRecDepth 100000 in
theorem refnewdrv_ok {base n : Nat} {m : List UInt8} (hp : pow2 n = true) (hf : base + qs n ≤ m.length) (hN : m.length ≤ 1000000) (h : SatL w (SlB 5 (.slice (some ⟨mb, o, none⟩) N c) m :: L)) :
    Calls Try.prog 30 #[.slice (some ⟨mb, o, none⟩) N c, .int .i64 base, .int .i64 n] w (Ret fun r w' => ∃ db, r = .tuple #[.pointer (some ⟨db, 0, none⟩), .int .i64 0] ∧ SatL w' (XDrvR db mb o N c (Dr.new base n) :: SlB 5 (.slice (some ⟨mb, o, none⟩) N c) (lzero m base (qs n)) :: L)) := by
  obtain ⟨hNm, hc, _⟩ := Sl.lenEq h
  rw [bvs_len] at hNm
  have hq : qsize (n : Int) = qs n := by unfold qsize qs; rw [if_pos ⟨by omega, hp⟩]; rfl
  have hn := pow2_le hp
  have ha := fits_ok (a := some ⟨mb, o, none⟩) (N := N) (c := c) (base := base) (n := n) (by omega) (by omega) w
  rw [decide_eq_true (show atFits N base n from ⟨by rw [hq]; unfold qs; omega, by omega, by rw [hq]; omega⟩)] at ha
  have hs := hid (refsize_ok (n : Int))
  rw [hq] at hs
  have hfin := hid (fun (w' : World) (db bb : Nat) (X : List HP) (h : SatL w' (cl db 89 (xdrvV mb o N c ⟨base, n, 0, 0⟩ (.slice (some ⟨bb, 0, none⟩) n n) (.slice none 0 0)).toArray :: Sl 4 (.slice (some ⟨bb, 0, none⟩) n n) (List.replicate n (.bool false)) :: X)) => (sat_XDrvR.2 ⟨.slice (some ⟨bb, 0, none⟩) n n, .slice none 0 0, [], ⟨rfl, List.nodup_nil⟩, by
    rw [Dr.new, List.map_replicate]
    exact (big_nil.2 (SlK_nil (T := 95) (k := 2) h)).bring [2, 3, 1, 0]⟩ : SatL w' (XDrvR db mb o N c (Dr.new base n) :: X)))
  unfold xdrvV at hfin
  have Hml := hid (fun j (hj : j ≤ qs n) => (lzero_len (by omega) : (lzero m base j).length = m.length))
  have Hst := hid (fun j (hj : j < qs n) => lzero_step (m := m) (base := base) (j := j) (by omega))
  have h0 : SatL w (SlB 5 (.slice (some ⟨mb, o, none⟩) N c) (lzero m base 0) :: L) := by unfold lzero; simpa using h
  have hbz : base + qs n ≤ N := by omega
  have hNb : N ≤ 1000000 := by omega
  have hnz : (n : Int) ≤ 256 := by omega
  have HN := hid hNm
  generalize qs n = z at *
  clear hp hf hq hNm h hN
  go_enter Try.func30, Try.ntmps30
  go_wp2_with (first | (go_at_call 41; (with_reducible refine ha.mono ?_); rintro e w2 ⟨v, rfl, rfl, rfl⟩))
  clear ha
  go_loopw [8] (fun i wr => ∃ j : Nat, j ≤ z ∧ i = .int .i64 j ∧ SatL wr (SlB 5 (.slice (some ⟨mb, o, none⟩) N c) (lzero m base j) :: L)) (fun i _ => z - (intOf i).toNat)
  case atStart => exact ⟨0, by omega, rfl, h0⟩
  case round =>
    clear h0
    obtain ⟨j, hj, rfl, hs1⟩ := hrel
    by_cases hlt : j < z
    · have hlz : (j : Int) < z := by omega
      have hin : base + j < (bvs (lzero m base j)).length := by rw [bvs_len, Hml.out j hj, ← HN.out]; omega
      have Hset := hid (fun x => Sl.set hs1 (i := base + j) hin x)
      have fr := Sl.free hs1 (o + (base + j))
      obtain ⟨u, cu⟩ : ∃ u, wr.cell? ⟨mb, o + (base + j), none⟩ = some u := ⟨_, Sl.cell hs1 (List.getElem?_eq_getElem hin)⟩
      have i1 : (base : Int) + j < N := by omega
      have i2 : base + j < N := by omega
      clear hs1 hin
      go_wp2_with (first | (go_at_call 17; (with_reducible refine (hs.out _).mono ?_); rintro e w2 ⟨v, rfl, rfl, rfl⟩))
      go_roundw
      case rel =>
        refine ⟨j + 1, by omega, by go_num, ?_⟩
        have := Hset.out (.int .u8 0)
        rw [Hst.out j hlt] at this
        exact this
      case measure => simp [intOf]; omega
    · obtain rfl : j = z := by omega
      go_wp2_with (first | (go_at_call 17; (with_reducible refine (hs.out _).mono ?_); rintro e w2 ⟨v, rfl, rfl, rfl⟩) | (refine wpList_make_sl rfl (.tmp 28) (.tmp 28) rfl elem_bool n rfl rfl hs1 (by omega) (by omega) ?_; intro w3 h3))
      go_ret2
      have h4 := h3.alloc (.cells #[.slice (some ⟨mb, o, none⟩) N c, .int .i64 base, .int .i64 n, .slice (some ⟨wr.heap.size, 0, none⟩) n n, .int .i64 0, .int .i64 0, .slice none 0 0] 89)
      exact Ret.mk ⟨_, rfl, hfin.out _ _ _ _ h4⟩
set_option maxRecDepth 100000 in
theorem reffree_eq {d : Dr} {z : Nat} (ok : DrOk d z) (h : SatL w (XDrvR db mb o N c d :: L)) :
    Calls Try.prog 20 #[.pointer (some ⟨db, 0, none⟩)] w (Ret fun v w' => v = .int .i64 (free d.busy : Nat) ∧ w = w') := by
  obtain ⟨tv, fv, rs, _, h1⟩ := sat_XDrvR.1 h
  have hn := pow2_le ok.rg.pw
  have hlen := ok.len
  obtain ⟨a, cc, rfl, l1, l2⟩ := Sl.valn (SatL.pull h1 1 : SatL w (Sl _ _ _ :: _)) (m := d.busy.length) (by rw [List.length_map])
  have c2 : w.cell? ⟨db, 2, none⟩ = some (.int .i64 d.r.n) := SatL.cell h1 (i := 2) rfl
  have c3 : w.cell? ⟨db, 3, none⟩ = some (.slice a d.busy.length cc) := SatL.cell h1 (i := 3) rfl
  rw [← hlen] at c2
  have hlb : d.busy.length ≤ 256 := by omega
  have h2 := (SatL.pull h1 1 : SatL w (Sl _ _ _ :: _))
  clear h h1 ok hlen hn
  generalize d.busy = bl at *
  go_enter Try.func20, Try.ntmps20
  go_wp2
  go_loopw [3, 4] (fun s i wr => ∃ j : Nat, j ≤ bl.length ∧ i = .int .i64 j ∧ s = .int .i64 (free (bl.take j) : Nat) ∧ w = wr) (fun _ i _ => bl.length - (intOf i).toNat)
  case atStart => exact ⟨0, by omega, rfl, rfl, rfl⟩
  case round =>
    obtain ⟨j, hj, rfl, rfl, rfl⟩ := hrel
    by_cases hlt : j < bl.length
    · have hb : bl[j]? = some bl[j] := List.getElem?_eq_getElem hlt
      obtain ⟨b, off, rfl⟩ := Sl.addr h2 (by omega)
      have cj := Sl.cell h2 (i := j) (x := .bool bl[j]) (by rw [List.getElem?_map, hb]; rfl)
      have hfr := hid (free_take hb)
      have hfl := Nat.le_trans (free_le (bl.take j)) (List.length_take_le j bl)
      have hjz : (j : Int) < bl.length := by omega
      clear hb
      generalize free (bl.take j) = f0 at *
      generalize bl[j] = bj at *
      cases bj
      all_goals
        go_wp2
        go_roundw
        case rel => exact ⟨j + 1, by omega, by go_num, by rw [hfr.out]; go_num, trivial⟩
        case measure => simp [intOf]; omega
    · obtain rfl : j = bl.length := by omega
      rw [List.take_length]
      go_wp2
      go_ret
      exact Ret.mk ⟨rfl, rfl⟩
end
end Go.Proofs.Ytnniipeoahpkcaa
