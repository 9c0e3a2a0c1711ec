/- The parts of a record: sound, twice, get, set, block of the program. No condition beside the sizes that each names. -/
import Derived.Test.YtjjnadlklfegcaaWal
import Derived.Test.YtjjnadlklfegcaaCopy
import Derived.Test.YtjjnadlklfegcaaNumH
import Derived.Test.YtjjnadlklfegcaaMapLen
namespace Go.Proofs.Ytjjnadlklfegcaa
set_option linter.unusedVariables false
set_option linter.unusedSimpArgs false
open Go.RowKit

/-- the value v reads as these cells, k an element -/
def RdK (k : Nat) (v : Value) (n : Nat) (xs : List Value) (w : World) : Prop :=
  (v = .slice none 0 0 ∧ n = 0 ∧ xs = []) ∨ ∃ b off c, v = .slice (some ⟨b, off, none⟩) n c ∧ n ≤ c ∧ c ≤ 9223372036854775807 ∧ xs.length = n * k ∧ ∀ (i : Nat) x, xs[i]? = some x → w.cell? ⟨b, off + i, none⟩ = some x
/-- what a block's bytes are: a slice of as many -/
def PtSl (p : Pt) : Prop := ∃ a c, p.v = .slice a p.d.length c ∧ p.d.length ≤ c ∧ c ≤ 9223372036854775807
def RdPts (v : Value) (ps : List Pt) (w : World) : Prop := RdK 2 v ps.length (pcells ps) w ∧ ∀ p ∈ ps, PtSl p
theorem RdK.valn {k n : Nat} {v : Value} {xs : List Value} {w : World} (h : RdK k v n xs w) : ∃ a c, v = .slice a n c ∧ n ≤ c ∧ c ≤ 9223372036854775807 := by
  rcases h with ⟨rfl, rfl, rfl⟩ | ⟨b, off, c, rfl, h1, h2, _⟩
  · exact ⟨_, _, rfl, Nat.le_refl _, by omega⟩
  · exact ⟨_, c, rfl, h1, h2⟩
theorem RdK.at {k n m c : Nat} {a : Option Addr} {xs : List Value} {w : World} (h : RdK k (.slice a m c) n xs w) (hn : 0 < n) : ∃ b off, a = some ⟨b, off, none⟩ ∧ ∀ (i : Nat) x, xs[i]? = some x → w.cell? ⟨b, off + i, none⟩ = some x := by
  rcases h with ⟨h, rfl, rfl⟩ | ⟨b, off, c, h0, h1, h2, h3, h4⟩
  · omega
  · cases h0; exact ⟨b, off, rfl, h4⟩
theorem SlK.rdk {w : World} {L : List HP} {T k n : Nat} {v : Value} {xs : List Value} (h : SatL w (SlK T k v n xs :: L)) : RdK k v n xs w := by
  rcases SlK.form h with ⟨rfl, rfl, rfl⟩ | ⟨b, off, c, rfl, h1, h2, h3⟩
  · exact .inl ⟨rfl, rfl, rfl⟩
  · unfold maxLen at h2
    exact .inr ⟨b, off, c, rfl, h1, by omega, h3, fun i x hx => SlK.cell h hx⟩
theorem RdK.take {k n c m : Nat} {b off : Nat} {xs : List Value} {w : World} (h : RdK k (.slice (some ⟨b, off, none⟩) n c) n xs w) (hm : m ≤ n) : RdK k (.slice (some ⟨b, off, none⟩) m c) m (xs.take (m * k)) w := by
  rcases h with ⟨h, _⟩ | ⟨b', off', c', h0, h1, h2, h3, h4⟩
  · cases h
  · cases h0
    have : m * k ≤ n * k := Nat.mul_le_mul_right _ hm
    refine .inr ⟨b, off, c, rfl, by omega, h2, by rw [List.length_take]; omega, fun i x hx => h4 i x ?_⟩
    rw [List.getElem?_take] at hx
    split at hx
    · exact hx
    · cases hx
theorem pcells_take (ps : List Pt) : ∀ m, (pcells ps).take (m * 2) = pcells (ps.take m) := by
  induction ps with
  | nil => intro m; simp [pcells]
  | cons p ps ih =>
    intro m
    cases m with
    | zero => simp [pcells]
    | succ m =>
      have e : pcells (p :: ps) = .int .i64 p.b :: p.v :: pcells ps := rfl
      rw [e, show (m + 1) * 2 = m * 2 + 1 + 1 by omega, List.take_succ_cons, List.take_succ_cons, ih]
      rfl
theorem pcells_get {ps : List Pt} : ∀ {q : Nat} {r : Pt}, ps[q]? = some r → (pcells ps)[q * 2]? = some (.int .i64 r.b) ∧ (pcells ps)[q * 2 + 1]? = some r.v := by
  induction ps with
  | nil => intro q r h; simp at h
  | cons x ps ih =>
    intro q r h
    have e : pcells (x :: ps) = .int .i64 x.b :: x.v :: pcells ps := rfl
    cases q with
    | zero => simp at h; subst h; rw [e]; exact ⟨rfl, rfl⟩
    | succ q =>
      obtain ⟨h1, h2⟩ := ih (by simpa using h)
      rw [e, show (q + 1) * 2 = q * 2 + 1 + 1 by omega]
      exact ⟨by simpa using h1, by simpa using h2⟩

theorem thin (l : List Int) : ∃ m : List Int, m.Nodup ∧ (∀ k, k ∈ m ↔ k ∈ l) ∧ m.length ≤ l.length ∧ (m.length = l.length → l.Nodup) := by
  induction l with
  | nil => exact ⟨[], by simp, by simp, Nat.le_refl _, by simp⟩
  | cons a l ih =>
    obtain ⟨m, h1, h2, h3, h4⟩ := ih
    by_cases ha : a ∈ l
    · refine ⟨m, h1, fun k => ?_, by simp; omega, fun e => ?_⟩
      · rw [h2, List.mem_cons]
        exact ⟨.inr, fun h => h.elim (fun e => e ▸ ha) id⟩
      · simp at e; omega
    · refine ⟨a :: m, List.nodup_cons.2 ⟨fun h => ha ((h2 a).1 h), h1⟩, fun k => ?_, by simp; omega, fun e => ?_⟩
      · rw [List.mem_cons, List.mem_cons, h2]
      · exact List.nodup_cons.2 ⟨ha, h4 (by simpa using e)⟩
theorem fewer {ks l : List Int} (hk : ks.Nodup) (hm : ∀ k, k ∈ ks ↔ k ∈ l) : (ks.length < l.length ↔ ¬ l.Nodup) := by
  obtain ⟨m, h1, h2, h3, h4⟩ := thin l
  have hl : ks.length = m.length := by
    have p : ks.Perm m := (List.perm_ext_iff_of_nodup hk h1).2 fun k => by rw [hm, h2]
    exact p.length_eq
  rw [hl]
  constructor
  · intro h hn
    have p : m.Perm l := (List.perm_ext_iff_of_nodup h1 hn).2 h2
    have := p.length_eq
    omega
  · intro h
    rcases Nat.lt_or_ge m.length l.length with h5 | h5
    · exact h5
    · exact absurd (h4 (by omega)) h
/-- does a place stand twice? -/
def dupB (l : List Int) : Bool := decide (¬ l.Nodup)
theorem dupB_no {l : List Int} (h : l.Nodup) : dupB l = false := by unfold dupB; rw [decide_eq_false_iff_not]; exact fun k => k h
theorem dupB_yes {l : List Int} (h : ¬ l.Nodup) : dupB l = true := by unfold dupB; rw [decide_eq_true_iff]; exact h
theorem key_int : KeyInt Try.prog 113 3 (.int .i64 0) := .of (kt := 3) (by kernel_rfl) (by kernel_rfl) (by kernel_rfl)

section
variable {w : World} {L : List HP}

theorem sound_ok {b : Int} {a : Option Addr} {n c : Nat} {d : List UInt8} (hd : d.length = n) (hn : n ≤ 9223372036854775807) (h : SatL w L) :
    Calls Try.prog 42 #[.agg #[.int .i64 b, .slice a n c]] w (Ret fun v w' => v = .int .i64 (soundE (b, d)) ∧ SatL w' L) := by
  subst hd
  by_cases h1 : b < 0
  · have e := hid (show soundE (b, d) = 1 by unfold soundE; rw [if_pos (.inl h1)])
    go_enter Try.func42, Try.ntmps42
    go_wp2
    go_ret
    exact Ret.mk ⟨by rw [e.out]; rfl, SatL.tail (h.alloc _)⟩
  · by_cases h2 : 4294967295 < b
    · have e := hid (show soundE (b, d) = 1 by unfold soundE; rw [if_pos (.inr h2)])
      go_enter Try.func42, Try.ntmps42
      go_wp2
      go_ret
      exact Ret.mk ⟨by rw [e.out]; rfl, SatL.tail (h.alloc _)⟩
    · have hh : ¬ (b < 0 ∨ 4294967295 < b) := by omega
      by_cases h3 : d.length = 512
      · have e := hid (show soundE (b, d) = 0 by unfold soundE; rw [if_neg hh, if_neg (by simpa using h3)])
        have h4 : (d.length : Int) = 512 := by omega
        clear h3 hh
        go_enter Try.func42, Try.ntmps42
        go_wp2
        go_ret
        exact Ret.mk ⟨by rw [e.out]; rfl, SatL.tail (h.alloc _)⟩
      · have e := hid (show soundE (b, d) = 14 by unfold soundE; rw [if_neg hh, if_pos (by simpa using h3)])
        have h4 : ((d.length : Int) != 512) = true := by simp; omega
        clear h3 hh
        go_enter Try.func42, Try.ntmps42
        go_wp2
        go_ret
        exact Ret.mk ⟨by rw [e.out]; rfl, SatL.tail (h.alloc _)⟩

set_option maxRecDepth 100000 in
set_option maxHeartbeats 1000000 in
theorem twice_ok {v : Value} {ps : List Pt} (h : SatL w L) (g : Gives L (RdPts v ps)) :
    Calls Try.prog 43 #[v] w (Ret fun r w' => r = .bool (dupB (ps.map (·.b))) ∧ SatL w' L) := by
  obtain ⟨a, c, rfl, q1, q2⟩ := (g w h).1.valn
  have hmm := @run_makeMap Try.prog
  have h0 := MapI.made (h.alloc (.map #[] 0))
  go_enter Try.func43, Try.ntmps43
  go_wp2
  go_loopw [9] (fun i wr => ∃ (j : Nat) (es : IM), j ≤ ps.length ∧ i = .int .i64 j ∧ (∀ k, k ∈ mkeys es ↔ k ∈ (ps.take j).map (·.b)) ∧ SatL wr (MapI w.heap.size es :: L)) (fun i _ => ps.length - (intOf i).toNat)
  case atStart => exact ⟨0, [], by omega, rfl, by simp [mkeys], h0⟩
  case round =>
    obtain ⟨j, es, hj, rfl, hm, hs⟩ := hrel
    by_cases hlt : j < ps.length
    · obtain ⟨b, off, rfl, hc⟩ := (g wr hs.tail).1.at (by omega)
      have hp : ps[j]? = some ps[j] := List.getElem?_eq_getElem hlt
      have hsn := hid (show (ps.take (j + 1)).map (·.b) = (ps.take j).map (·.b) ++ [ps[j].b] by rw [List.take_add_one, hp, List.map_append]; rfl)
      obtain ⟨c1, c2⟩ := pcells_get hp
      have d1 := hc _ _ c1
      have d2 := hc _ _ c2
      rw [← Nat.add_assoc] at d2
      obtain ⟨va, vc, hv, q3, q4⟩ := (g wr hs.tail).2 _ (List.getElem_mem hlt)
      rw [hv] at d2
      generalize ps[j].b = pb at *
      generalize ps[j].d.length = pn at *
      have Hm := hid hm
      have k1 := (hs.alloc (.cells #[.int .i64 pb, .slice va pn vc] 29)).swap
      clear hc hp c1 c2 hm hv
      go_wp2_with (refine wpList_mapUpdate_sl rfl (.tmp 14) (.tmp 16) (.tmp 17) rfl key_int rfl k1 rfl rfl ?_; intro w2 h2)
      go_roundw
      case rel =>
        refine ⟨j + 1, mput es pb (.int .i64 j), by omega, by go_num, fun k => ?_, SatL.tail (SatL.swap h2)⟩
        rw [hsn.out, ← mget_isSome, mget_put, List.mem_append, List.mem_singleton, ← Hm.out, ← mget_isSome]
        split
        · simp_all
        · simp_all
      case measure => simp [intOf]; omega
    · obtain rfl : j = ps.length := by omega
      rw [List.take_length] at hm
      have hn := MapI.nodup hs
      have hl : (mkeys es).length = es.length := by simp [mkeys]
      have hf := fewer hn hm
      rw [hl, List.length_map] at hf
      have hel : es.length ≤ 9223372036854775807 := by
        rcases Nat.lt_or_ge es.length ps.length with h5 | h5
        · omega
        · obtain ⟨m, h1, h2, h3, h4⟩ := thin (ps.map (·.b))
          have p : (mkeys es).Perm m := (List.perm_ext_iff_of_nodup hn h1).2 fun k => by rw [hm, h2]
          have := p.length_eq
          rw [List.length_map] at h3
          omega
      clear hm hn hl
      by_cases hd : (ps.map (·.b)).Nodup
      · have h5 : ¬ ((es.length : Int) < ps.length) := by
          intro h6
          exact hf.1 (by omega) hd
        have Hd := hid hd
        clear hf hd
        go_wp2_with (refine wpList_maplen_sl rfl (.tmp 19) rfl key_int rfl hs hel ?_)
        go_ret
        exact Ret.mk ⟨by rw [dupB_no Hd.out]; rfl, hs.tail⟩
      · have h5 : (es.length : Int) < ps.length := by
          have := hf.2 hd
          omega
        have Hd := hid hd
        clear hf hd
        go_wp2_with (refine wpList_maplen_sl rfl (.tmp 19) rfl key_int rfl hs hel ?_)
        go_ret
        exact Ret.mk ⟨by rw [dupB_yes Hd.out]; rfl, hs.tail⟩

/-- a number of four bytes -/
theorem numAt_lt (b : List UInt8) (i : Nat) : numAt b i 4 < 4294967296 := by
  unfold numAt
  have h := leN_lt ((b.drop i).take 4)
  have h2 : ((b.drop i).take 4).length ≤ 4 := by rw [List.length_take]; omega
  exact Nat.lt_of_lt_of_le h (Nat.le_trans (Nat.pow_le_pow_right (by omega) h2) (by decide))
theorem get_ok {v : Value} {l : List UInt8} {at_ : Nat} (hat : at_ + 4 ≤ l.length) (h : RdB v l w) :
    Calls Try.prog 54 #[v, .int .i64 at_] w fun e w' => e = .returned (.int .i64 (numAt l at_ 4 : Nat)) ∧ w = w' := by
  have hle := le_in (k := 4) (.inr (.inr (.inl rfl))) hat h
  have hlt := numAt_lt l at_
  unfold numAt at *
  rw [show ((4 : Nat) : Int) = 4 from rfl] at hle
  obtain ⟨a, c, rfl, g1, g2⟩ := h.valn
  generalize leN ((l.drop at_).take 4) = x at *
  go_enter Try.func54, Try.ntmps54
  go_wp2_with (go_at_call 53; (with_reducible refine hle.mono ?_); rintro e w' ⟨rfl, rfl⟩)
  go_ret
  exact ⟨rfl, rfl⟩

/-- a sum is laid down -/
theorem set_ok {b off n c : Nat} {l : List UInt8} {at_ s : Nat} (hs : s < 4294967296) (hat : at_ + 4 ≤ n) (h : SatL w (SlB 5 (.slice (some ⟨b, off, none⟩) n c) l :: L)) :
    Calls Try.prog 45 #[.slice (some ⟨b, off, none⟩) n c, .int .i64 at_, .int .u32 s] w (Ret fun v w' => SatL w' (SlB 5 (.slice (some ⟨b, off, none⟩) n c) (l.take at_ ++ lowb 4 s ++ l.drop (at_ + 4)) :: L)) := by
  have w1 := u64_in s (by omega)
  obtain ⟨hn, hnc, hcm⟩ := Sl.lenEq h
  rw [bvs_len] at hn
  subst hn
  have k1 := h.alloc (.cells #[u64v s] 22)
  have hp1 := putle4 (bs := []) (us := [s]) (by simp; omega) (by simp) k1 (fun w' h' => .inl ⟨rfl, rfl⟩)
    (fun w' h' => (RdU.ofCl (n := 1) (l := [s]) (c := 1) h' rfl rfl (by omega) (by omega)))
  rw [show ([] : List UInt8) ++ [s].flatMap (lowb 4) = lowb 4 s by simp] at hp1
  go_enter Try.func45, Try.ntmps45
  go_wp2_with (first
    | (go_at_call 70; (with_reducible refine hp1.mono ?_); rintro e w5 ⟨v, rfl, v1, rfl, hs1⟩; obtain ⟨a1, c1, rfl, q1, q2⟩ := Sl.valn hs1 (m := 4) (by rw [bvs_len, lowb_len]); have hsr := SrcOk.ofSl (P := Try.prog) Try.underlying27 hs1; have hs2 := SatL.pull hs1 2; rw [bvs_len, lowb_len] at hsr)
    | (refine wpList_copy_sl rfl (.tmp 17) (.tmp 18) rfl elem_byte rfl hs2 rfl hsr (bvs_one _) hat (by omega) ?_; intro w6 hs6))
  go_end0
  have e : (bvs l).take at_ ++ bvs (lowb 4 s) ++ (bvs l).drop (at_ + 4) = bvs (l.take at_ ++ (lowb 4 s ++ l.drop (at_ + 4))) := by
    rw [bvs_append, bvs_append, ← List.map_take, ← List.map_drop, List.append_assoc]
  rw [e] at hs6
  exact Ret.mk (SatL.tail (SatL.swap (SatL.tail (SatL.swap hs6))))

/-- the head or the end of a record, without its sum -/
def blockB (word : List UInt8) (seq : Nat) (us : List Nat) : List UInt8 := word ++ lowb 8 seq ++ us.flatMap (lowb 4) ++ List.replicate (512 - (word ++ lowb 8 seq ++ us.flatMap (lowb 4)).length) 0
theorem putle8 {v vu : Value} {bs : List UInt8} {u : Nat} (hu : u < 18446744073709551616) (hb : bs.length ≤ 1000) (h : SatL w L) (gb : Gives L (RdB v bs)) (gu : Gives L (RdU vu [u])) :
    Calls Try.prog 70 #[v, .int .i64 8, vu] w (Ret (PutPost 5 L (bs ++ lowb 8 u))) := by
  have hf : fitsIn 8 [u] := by
    intro i hi
    have e : (256 : Nat) ^ 8 = 18446744073709551616 := by decide
    rw [e]
    have : i = 0 := by simp at hi; omega
    subst this
    exact hu
  have := putle_ok (k := 8) (.inr (.inr (.inr rfl))) hf (by simp; omega) h gb gu
  rw [show [u].flatMap (lowb 8) = lowb 8 u by simp] at this
  exact this
set_option maxHeartbeats 1000000 in
theorem block_ok {word : List UInt8} {y : ByteArray} {seq : Nat} {uv : Value} {us : List Nat} (hy : y = ⟨word.toArray⟩) (hw : word.length = 8) (hs : seq < 18446744073709551616) (hu : ∀ u ∈ us, u < 4294967296) (hl : us.length ≤ 100)
    (h : SatL w L) (gu : Gives L (RdU uv us)) :
    Calls Try.prog 44 #[.string y, .int .u64 seq, uv] w (Ret fun v w' => SatL w' (SlB 5 v (blockB word seq us) :: L)) := by
  have hlen : (word ++ lowb 8 seq ++ us.flatMap (lowb 4)).length = 16 + 4 * us.length := by
    rw [List.length_append, List.length_append, lowb_len, flatMap_lowb4_len, hw]
  have hui : Try.prog.underlying 3 = some (.int .i64) := Try.underlying3
  have b8 : 0 < 1 := by omega
  go_enter Try.func44, Try.ntmps44
  go_wp2_with (first
    | (refine wpList_strbytes_sl rfl (.tmp 10) rfl rfl hy (by omega) h ?_; intro v1 w1 h1; have hv := (RoB.rd h1).valn; rw [hw] at hv; obtain ⟨a1, c1, rfl, p1, p2⟩ := hv; have k1 := h1.alloc (.cells #[u64v seq] 22); have hp1 := putle8 hs (by omega) k1 (fun w' h' => RoB.rd (SatL.swap h')) (fun w' h' => (RdU.ofCl (n := 1) (l := [seq]) (c := 1) h' rfl rfl (by omega) (by omega))))
    | (go_at_call 70; (with_reducible refine hp1.mono ?_); rintro e w5 ⟨v, rfl, v2, rfl, hs2⟩; clear hp1; obtain ⟨a2, c2, rfl, p3, p4⟩ := Sl.valn hs2 (m := 16) (by rw [bvs_len, List.length_append, lowb_len, hw]); have hp2 := putle4 hu (by rw [List.length_append, lowb_len, hw]; omega) hs2 (fun w' h' => SlB.rd h') (fun w' h' => gu w' (SatL.tail (SatL.tail (SatL.tail h')))))
    | (go_at_call 70; (with_reducible refine hp2.mono ?_); rintro e w6 ⟨v, rfl, v3, rfl, hs3⟩; clear hp2; obtain ⟨a3, c3, rfl, p5, p6⟩ := Sl.valn hs3 (m := 16 + 4 * us.length) (by rw [bvs_len, hlen]); have e1 : IntKind.i64.wrap (512 - ((16 + 4 * us.length : Nat) : Int)) = ((512 - (16 + 4 * us.length) : Nat) : Int) := IntWalk.i64_in _ (by omega) |>.trans (by omega); have b9 : ((bvs (word ++ lowb 8 seq ++ us.flatMap (lowb 4))).length + (512 - (16 + 4 * us.length))) * 1 ≤ 140737488355328 := by rw [bvs_len, hlen]; omega)
    | (at_builtin; refine wpList_appendz_sl rfl (.tmp 23) (.tmp 26) rfl elem_byte hui rfl hs3 (m := 512 - (16 + 4 * us.length)) ?_ b8 b9 ?_; rotate_left; intro v4 w7 hs4))
  · go_ret
    have e9 : bvs (word ++ lowb 8 seq ++ us.flatMap (lowb 4)) ++ List.replicate (512 - (16 + 4 * us.length)) (Value.int .u8 0) = bvs (blockB word seq us) := by
      unfold blockB
      rw [hlen, bvs_append (word ++ lowb 8 seq ++ us.flatMap (lowb 4)), bvs_zeros]
    rw [e9] at hs4
    exact Ret.mk (SatL.tail (SatL.tail (SatL.tail (hs4.bring [1, 2, 3, 0]))))
  · exact congrArg (Value.int .i64) (by omega)
end
end Go.Proofs.Ytjjnadlklfegcaa
