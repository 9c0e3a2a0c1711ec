/- xdr's Writer: NewWriter, U32, Fixed and Bytes of one row, Done. No condition beside the sizes. -/
import Derived.Test.YtpecmkkcepnpeaaDoorXdrB
namespace Go.Proofs.YtpecmkkcepnpeaaDoor
set_option linter.unusedVariables false
set_option linter.unusedSimpArgs false
open Go.RowKit

/-- the value v reads as these 32-bit numbers (an empty slice may lie anywhere) -/
def RdW (v : Value) (l : List Nat) (w : World) : Prop :=
  (v = .slice none 0 0 ∧ l = []) ∨ ∃ A c, v = .slice (some A) l.length c ∧ l.length ≤ c ∧ c ≤ 9223372036854775807 ∧ (0 < l.length → ∃ b off, A = ⟨b, off, none⟩ ∧ ∀ i, i < l.length → w.cell? ⟨b, off + i, none⟩ = some (.int .u32 ((l.getD i 0 : Nat) : Int)))
/-- the value v reads as these bytes (an empty slice may lie anywhere) -/
def RdV (v : Value) (l : List UInt8) (w : World) : Prop :=
  (v = .slice none 0 0 ∧ l = []) ∨ ∃ A c, v = .slice (some A) l.length c ∧ l.length ≤ c ∧ c ≤ 9223372036854775807 ∧ (0 < l.length → ∃ b off, A = ⟨b, off, none⟩ ∧ ∀ i, i < l.length → w.cell? ⟨b, off + i, none⟩ = some (.int .u8 (((l.getD i 0).toNat : Nat) : Int)))
theorem RdB.v {v : Value} {l : List UInt8} {w : World} (h : RdB v l w) : RdV v l w := by
  rcases h with h | ⟨b, off, c, h0, h1, h2, h3⟩
  · exact .inl h
  · exact .inr ⟨_, c, h0, h1, h2, fun _ => ⟨b, off, rfl, h3⟩⟩
theorem RdV.b {v : Value} {l : List UInt8} {w : World} (h : RdV v l w) (hl : 0 < l.length) : RdB v l w := by
  rcases h with h | ⟨A, c, h0, h1, h2, h3⟩
  · exact .inl h
  · obtain ⟨b, off, rfl, h4⟩ := h3 hl
    exact .inr ⟨b, off, c, h0, h1, h2, h4⟩
theorem RdV.valn {w : World} {v : Value} {l : List UInt8} (h : RdV v l w) : ∃ a c, v = .slice a l.length c ∧ l.length ≤ c ∧ c ≤ 9223372036854775807 := by
  rcases h with ⟨rfl, rfl⟩ | ⟨A, c, rfl, h1, h2, _⟩
  · exact ⟨none, 0, rfl, by simp, by omega⟩
  · exact ⟨_, c, rfl, h1, h2⟩
theorem SrcOk.ofRdV {w : World} {v : Value} {l : List UInt8} (h : RdV v l w) : SrcOk Tryd.prog 27 1 w v l.length (bvs l) := by
  rcases Nat.eq_zero_or_pos l.length with h0 | h0
  · refine ⟨by simp, ?_⟩
    rcases h with ⟨rfl, rfl⟩ | ⟨A, c, rfl, h1, h2, h3⟩
    · exact .inl ⟨rfl, rfl, 5, by kernel_rfl⟩
    · refine .inr (.inl ⟨_, _, rfl, ⟨5, by kernel_rfl⟩, fun j y hy => ?_⟩)
      have hj : j < l.length := by have := (List.getElem?_eq_some_iff.1 hy).1; simpa using this
      omega
  · exact SrcOk.ofRdB (h.b h0)
theorem RdW.at {w : World} {a : Option Addr} {n c : Nat} {l : List Nat} (h : RdW (.slice a n c) l w) (hl : 0 < l.length) : n = l.length ∧ n ≤ c ∧ c ≤ 9223372036854775807 ∧ ∃ b off, a = some ⟨b, off, none⟩ ∧ ∀ i, i < l.length → w.cell? ⟨b, off + i, none⟩ = some (.int .u32 ((l.getD i 0 : Nat) : Int)) := by
  rcases h with ⟨_, rfl⟩ | ⟨A, c, h0, h1, h2, h3⟩
  · simp at hl
  · cases h0
    obtain ⟨b, off, rfl, h4⟩ := h3 hl
    exact ⟨rfl, h1, h2, b, off, rfl, h4⟩
theorem RdW.valn {w : World} {v : Value} {l : List Nat} (h : RdW v l w) : ∃ a c, v = .slice a l.length c ∧ l.length ≤ c ∧ c ≤ 9223372036854775807 := by
  rcases h with ⟨rfl, rfl⟩ | ⟨A, c, rfl, h1, h2, _⟩
  · exact ⟨none, 0, rfl, by simp, by omega⟩
  · exact ⟨_, c, rfl, h1, h2⟩
abbrev u32v (n : Nat) : Value := .int .u32 (n : Int)
def WrR (wb : Nat) (bs : List UInt8) : HP := ex fun v => sep [cl wb 129 #[v], SlB 5 v bs]
/-- the bytes of 32-bit numbers -/
def be4 (us : List Nat) : List UInt8 := us.flatMap (hib 4)
theorem be4_len (us : List Nat) : (be4 us).length = 4 * us.length := by
  induction us with
  | nil => rfl
  | cons u l ih => show (hib 4 u ++ be4 l).length = _; rw [List.length_append, hib_len, ih, List.length_cons]; omega
section
variable {w : World} {L : List HP} {wb : Nat} {bs : List UInt8}
theorem sat_WrR : SatL w (WrR wb bs :: L) ↔ ∃ v, SatL w (cl wb 129 #[v] :: SlB 5 v bs :: L) := by
  simp only [WrR, sat_ex, sat_sep, List.cons_append, List.nil_append]
theorem RdW.ofCl {T b c n : Nat} {l : List Nat} {cs : Array Value} (h : SatL w (cl b T cs :: L)) (hcs : cs = (l.map u32v).toArray) (hn : n = l.length) (hc : n ≤ c) (hc2 : c ≤ 9223372036854775807) : RdW (.slice (some ⟨b, 0, none⟩) n c) l w := by
  subst hcs; subst hn
  refine .inr ⟨_, c, rfl, hc, hc2, fun _ => ⟨b, 0, rfl, fun i hi => ?_⟩⟩
  rw [Nat.zero_add]
  exact h.cell (by simp [List.getD, hi])
theorem newwriter_ok (h : SatL w L) : Calls Tryd.prog 33 #[] w (Ret fun v w' => ∃ wb, v = .pointer (some ⟨wb, 0, none⟩) ∧ SatL w' (WrR wb [] :: L)) := by
  go_enter Tryd.func33, Tryd.ntmps33
  go_wp2
  go_ret
  exact Ret.mk ⟨_, rfl, sat_WrR.2 ⟨.slice none 0 0, (Sl_nil (T := 5) (h.alloc (.cells #[.slice none 0 0] 129))).swap⟩⟩
theorem done_ok (h : SatL w (WrR wb bs :: L)) (hb : bs.length ≤ 1000000000) :
    Calls Tryd.prog 36 #[.pointer (some ⟨wb, 0, none⟩)] w (Ret fun v w' => SatL w' (SlB 5 v bs :: WrR wb bs :: L)) := by
  obtain ⟨v, h0⟩ := sat_WrR.1 h
  have c0 := SatL.cell (h0 : SatL w (cl _ _ _ :: _)) (i := 0) (v := v) rfl
  have kc := clone_rd h0 (fun w' h' => SlB.rd (SatL.tail h')) hb
  clear h h0
  go_enter Tryd.func36, Tryd.ntmps36
  go_wp2_with (go_at_call 65; (with_reducible refine kc.mono ?_); rintro e w1 ⟨v1, rfl, h1⟩)
  go_ret
  exact Ret.mk ((sat_WrR.2 ⟨v, h1.bring [1, 2, 0]⟩ : SatL _ (WrR _ _ :: _)).bring [1, 0])
set_option maxHeartbeats 1000000 in
theorem wu32_ok {vu : Value} {us : List Nat} (hu : ∀ u ∈ us, u < 4294967296) (hb : bs.length + us.length * 8 ≤ 100000000) (h : SatL w (WrR wb bs :: L)) (gu : Gives L (RdW vu us)) :
    Calls Tryd.prog 34 #[.pointer (some ⟨wb, 0, none⟩), vu] w (Ret fun v w' => SatL w' (WrR wb (bs ++ be4 us) :: L)) := by
  obtain ⟨a, c, rfl, g1, g2⟩ := (gu w h.tail).valn
  have Gu := hid gu
  have Hu := hid hu
  clear gu hu
  go_enter Tryd.func34, Tryd.ntmps34
  go_wp2
  go_loopw [8] (fun i wr => ∃ j : Nat, j ≤ us.length ∧ i = .int .i64 j ∧ SatL wr (WrR wb (bs ++ be4 (us.take j)) :: L)) (fun i _ => us.length - (intOf i).toNat)
  case atStart => exact ⟨0, by omega, rfl, by simpa [be4] using h⟩
  case round =>
    clear h
    obtain ⟨j, hj, rfl, hs⟩ := hrel
    by_cases hlt : j < us.length
    · obtain ⟨_, _, _, b, off, rfl, hcell⟩ := (Gu.out wr hs.tail).at (by omega)
      have hc := hcell j hlt
      have hul : us.getD j 0 < 4294967296 := by
        simp only [List.getD, List.getElem?_eq_getElem hlt, Option.getD_some]
        exact Hu.out _ (List.getElem_mem hlt)
      have hsn := hid (show be4 (us.take (j + 1)) = be4 (us.take j) ++ hib 4 (us.getD j 0) by
        unfold be4
        rw [List.take_add_one, List.getElem?_eq_getElem hlt, List.flatMap_append]
        simp [List.getD, hlt])
      have hlen : (be4 (us.take j)).length ≤ us.length * 4 := by rw [be4_len]; have : (us.take j).length ≤ us.length := by simp; omega
                                                                 omega
      generalize be4 (us.take j) = D at *
      generalize us.getD j 0 = u at *
      obtain ⟨v, h0⟩ := sat_WrR.1 hs
      have c0 := SatL.cell (h0 : SatL wr (cl _ _ _ :: _)) (i := 0) (v := v) rfl
      have hal := h0.alloc (.cells #[.int .u64 (u : Int)] 86)
      have kp := putbe_ok (k := 4) (us := [u]) (.inr (.inr (.inl rfl))) (fitsIn_32 (by intro x hx; simp at hx; omega)) (by simp; omega) hal (fun w' h' => SlB.rd (SatL.tail (SatL.tail h'))) (fun w' h' => RdU.ofCl (n := 1) (c := 1) h' rfl rfl (by omega) (by omega))
      rw [show ((4 : Nat) : Int) = 4 from rfl, show [u].flatMap (hib 4) = hib 4 u by simp] at kp
      clear hal hcell hs h0
      go_wp2_with (first
        | (go_at_call 40; (with_reducible refine kp.mono ?_); rintro e w2 ⟨q, rfl, v', rfl, h2⟩; obtain ⟨vn, hvn⟩ : ∃ vn, (bvs (bs ++ D ++ hib 4 u)).length = vn := ⟨_, rfl⟩; obtain ⟨va, vc, rfl, _, _⟩ := Sl.valn h2 (m := vn) hvn; clear hvn; have h3 := SatL.tail (SatL.tail (h2.bring [1, 3, 2, 0])); have f0 := SatL.free (h3 : SatL w2 (cl _ _ _ :: _)) 0; have c2 := SatL.cell (h3 : SatL w2 (cl _ _ _ :: _)) (i := 0) (v := v) rfl; have hset := SatL.set (h3 : SatL w2 (cl _ _ _ :: _)) (i := 0) (.slice va vn vc); have Hset := hid hset; clear hset h2 h3))
      go_roundw
      case rel =>
        refine ⟨j + 1, by omega, by go_num, ?_⟩
        rw [hsn.out, ← List.append_assoc]
        exact sat_WrR.2 ⟨_, Hset.out⟩
      case measure => simp [intOf]; omega
    · obtain rfl : j = us.length := by omega
      rw [List.take_length] at hs
      go_wp2
      go_end0
      exact Ret.mk hs
set_option maxHeartbeats 1000000 in
theorem wfixed_ok {vu : Value} {xs : List UInt8} (hb : bs.length + xs.length ≤ 100000000) (h : SatL w (WrR wb bs :: L)) (gu : Gives L (RdRows vu [xs])) :
    Calls Tryd.prog 64 #[.pointer (some ⟨wb, 0, none⟩), vu] w (Ret fun v w' => SatL w' (WrR wb (bs ++ xs ++ List.replicate (pad4 xs.length) 0) :: L)) := by
  obtain ⟨a, c, rfl, g1, g2⟩ := (gu w h.tail).valn
  obtain ⟨b, off, rfl, hrow⟩ := (gu w h.tail).at (by simp)
  obtain ⟨vi, hci, hvi⟩ := hrow 0 (by simp)
  rw [Nat.add_zero] at hci
  have hvi2 : RdB vi xs w := hvi
  have ha3 := and3_neg xs.length
  have hx := SrcOk.ofRdB hvi2
  obtain ⟨ia, ic, rfl, _, _⟩ := hvi2.valn
  obtain ⟨v, h0⟩ := sat_WrR.1 h
  have c0 := SatL.cell (h0 : SatL w (cl _ _ _ :: _)) (i := 0) (v := v) rfl
  have hK := Sl.toK (n := bs.length) (SatL.swap h0) (by simp)
  have hbb : (bs.length + xs.length) * 1 ≤ 140737488355328 := by omega
  have h63 : bs.length + xs.length ≤ maxLen := by unfold maxLen; omega
  have hp3 := pad4_le xs.length
  generalize hpd : pad4 xs.length = d at *
  have hbz : ((bvs bs ++ bvs xs).length + d) * 1 ≤ 140737488355328 := by rw [List.length_append, bvs_len, bvs_len]; omega
  clear hpd gu hrow hvi hvi2 h0 h
  have hone : 0 < 1 := by omega
  go_enter Tryd.func64, Tryd.ntmps64
  go_wp2
  refine wp_loop_rounds 2 ?_
  rw [rounds_succ]
  go_wp2_with (first
    | (at_builtin; refine wpList_append_sl rfl (.tmp 16) (.tmp 17) rfl elem_byte rfl hK rfl hx (bvs_one xs) hbb h63 ?_; intro v' w2 h2 _; have hz := Sl.ofK h2)
    | (at_builtin; refine wpList_appendz_sl rfl (.tmp 18) (.tmp 22) rfl elem_byte Tryd.underlying3 rfl hz (m := d) rfl hone hbz ?_; intro v3 w3 h3; obtain ⟨vn, hvn⟩ : ∃ vn, (bvs bs ++ bvs xs ++ List.replicate d (Value.int .u8 0)).length = vn := ⟨_, rfl⟩; obtain ⟨va, vc, rfl, _, _⟩ := Sl.valn h3 (m := vn) hvn; clear hvn; have h4 := h3.swap; have f0 := SatL.free (h4 : SatL w3 (cl _ _ _ :: _)) 0; have c2 := SatL.cell (h4 : SatL w3 (cl _ _ _ :: _)) (i := 0) (v := v) rfl; have hset := SatL.set (h4 : SatL w3 (cl _ _ _ :: _)) (i := 0) (.slice va vn vc); have Hset := hid hset; clear hset h3 h4))
  rw [rounds_succ]
  go_wp2
  go_end0
  refine Ret.mk (sat_WrR.2 ⟨.slice va vn vc, ?_⟩)
  have := Hset.out
  rw [← bvs_zeros, ← bvs_append, ← bvs_append] at this
  exact this
set_option maxHeartbeats 1000000 in
theorem wbytes_ok {b : Nat} {vi : Value} {xs : List UInt8} (hb : bs.length + xs.length ≤ 10000000) (h : SatL w (WrR wb bs :: L)) (gc : Gives L (fun w' => w'.cell? ⟨b, 0, none⟩ = some vi)) (gx : Gives L (RdB vi xs)) :
    Calls Tryd.prog 35 #[.pointer (some ⟨wb, 0, none⟩), .slice (some ⟨b, 0, none⟩) 1 1] w (Ret fun v w' => SatL w' (WrR wb (bs ++ hib 4 xs.length ++ xs ++ List.replicate (pad4 xs.length) 0) :: L)) := by
  have hci := gc w h.tail
  obtain ⟨ia, ic, rfl, _, _⟩ := (gx w h.tail).valn
  have Gx := hid gx
  have Ha := hid (h.alloc (.cells #[.int .u32 (xs.length : Int)] 22))
  have ku := wu32_ok (us := [xs.length]) (by intro u hu; simp at hu; omega) (by simp; omega) (Ha.out.swap) (fun w' h' => RdW.ofCl (n := 1) (c := 1) h' rfl rfl (by omega) (by omega))
  rw [show be4 [xs.length] = hib 4 xs.length by simp [be4]] at ku
  have hl : (bs ++ hib 4 xs.length).length = bs.length + 4 := by rw [List.length_append, hib_len]
  have hwr : IntKind.u32.wrap (xs.length : Int) = (xs.length : Int) := u32_in _ (by omega)
  generalize bs ++ hib 4 xs.length = D at *
  clear gc gx h
  go_enter Tryd.func35, Tryd.ntmps35
  go_wp2
  refine wp_loop_rounds 2 ?_
  rw [rounds_succ]
  go_wp2_with (first
    | (go_at_call 34; (with_reducible refine ku.mono ?_); rintro e w2 ⟨q, rfl, h2⟩; have h3 := SatL.tail h2.swap; have Hb := hid (h3.alloc (.cells #[.slice ia xs.length ic] 27)); have kf := wfixed_ok (xs := xs) (by omega) Hb.out.swap (fun w' h' => RdRows.one (c := 1) h' (Gx.out w' h'.tail) (by omega) (by omega)))
    | (go_at_call 64; (with_reducible refine kf.mono ?_); rintro e w4 ⟨q, rfl, h4⟩))
  rw [rounds_succ]
  go_wp2
  go_end0
  exact Ret.mk (SatL.tail h4.swap)
end
end Go.Proofs.YtpecmkkcepnpeaaDoor
