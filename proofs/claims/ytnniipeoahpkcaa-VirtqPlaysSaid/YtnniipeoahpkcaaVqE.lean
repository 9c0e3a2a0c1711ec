/- The driver's side: Free, Used. No condition beside the sizes that each names. -/
import Derived.Test.YtnniipeoahpkcaaVqD
namespace Go.Proofs.Ytnniipeoahpkcaa
set_option linter.unusedVariables false
set_option linter.unusedSimpArgs false
open Go.RowKit
section
variable {α : Type} {F : Value → α → HP} {w : World} {m : Nat} {f : Int → Option α} {l : List HP}
/-- an entry is taken out, and what it held with it -/
theorem mapf_take (h : SatL w (MapF F m f :: l)) {k : Int} {xs : α} (hk : f k = some xs) : ∃ (es : IM) (v : Value) (L : HP), mget es k = some v ∧ SatL w (MapI m es :: F v xs :: L :: l) ∧
    (∀ (w' : World) (l' : List HP), SatL w' (MapI m (mdel es k) :: L :: l') → SatL w' (MapF F m (fun j => if j = k then none else f j) :: l')) := by
  obtain ⟨rs, rfl, h1⟩ := sat_MapF.1 h
  have hn := MapI.nodup h1
  cases hf : rs.find? (fun r => r.k == k) with
  | none => rw [ofget, hf] at hk; cases hk
  | some r =>
    obtain ⟨h3, r1, r2, rfl, h2⟩ := List.find?_eq_some_iff_append.1 hf
    have hrk : r.k = k := by simpa using h3
    have hxs : r.xs = xs := by rw [ofget, hf] at hk; simpa using hk
    have hn' : ((r1 ++ r :: r2).map (·.k)).Nodup := by simpa [mkeys, rfm, List.map_map, Function.comp_def] using hn
    have g1 : ∀ y ∈ r1, ¬ y.k = k := fun y hy => by simpa using h2 y hy
    have g2 : ∀ y ∈ r2, ¬ y.k = k := by
      intro y hy e
      simp only [List.map_append, List.map_cons] at hn'
      have := (List.nodup_append.1 hn').2.1
      rw [List.nodup_cons] at this
      exact this.1 (by rw [hrk, ← e]; exact List.mem_map.2 ⟨y, hy, rfl⟩)
    have hdel : mdel (rfm (r1 ++ r :: r2)) k = rfm (r1 ++ r2) := by
      have k1 : (rfm r1).filter (fun p => !(p.1 == k)) = rfm r1 := by
        rw [List.filter_eq_self]; intro p hp; obtain ⟨y, hy, rfl⟩ := List.mem_map.1 hp
        have := g1 y hy; simpa using this
      have k2 : (rfm r2).filter (fun p => !(p.1 == k)) = rfm r2 := by
        rw [List.filter_eq_self]; intro p hp; obtain ⟨y, hy, rfl⟩ := List.mem_map.1 hp
        have := g2 y hy; simpa using this
      unfold mdel
      rw [show rfm (r1 ++ r :: r2) = rfm r1 ++ (r.k, r.v) :: rfm r2 by simp [rfm], List.filter_append, List.filter_cons, k1, k2]
      simp [hrk, rfm]
    refine ⟨_, r.v, big (fun r : Rf α => F r.v r.xs) (r1 ++ r2), by rw [rfm_get, hf]; rfl, ?_, fun w' l' h' => sat_MapF.2 ⟨r1 ++ r2, ?_, ?_⟩⟩
    · rw [← hxs]
      exact ((big_mid (x := r)).1 h1.swap).bring [2, 0, 1]
    · funext j
      unfold ofget
      rw [List.find?_append, List.find?_append, List.find?_cons]
      by_cases hj : j = k
      · subst hj
        rw [if_pos rfl, List.find?_eq_none.2 (fun y hy => by simpa using g1 y hy), List.find?_eq_none.2 (fun y hy => by simpa using g2 y hy)]; rfl
      · rw [if_neg hj, show (r.k == j) = false by rw [hrk]; simpa using fun e => hj e.symm]
    · rw [hdel] at h'; exact h'
theorem mapf_none (h : SatL w (MapF F m f :: l)) {k : Int} (hk : f k = none) : ∃ (es : IM), mget es k = none ∧ SatL w (MapI m es :: l) := by
  obtain ⟨rs, rfl, h1⟩ := sat_MapF.1 h
  refine ⟨_, ?_, SatL.tail h1.swap⟩
  rw [rfm_get]
  rw [ofget] at hk
  cases hf : rs.find? (fun r => r.k == k) with
  | none => rfl
  | some r => rw [hf] at hk; cases hk
end
/-- how many are free -/
def free (l : List Bool) : Nat := l.countP (fun b => !b)
theorem free_take {l : List Bool} {j : Nat} {b : Bool} (h : l[j]? = some b) : free (l.take (j + 1)) = free (l.take j) + (if b then 0 else 1) := by
  unfold free
  rw [List.take_add_one, h, List.countP_append]
  cases b <;> rfl
theorem free_le (l : List Bool) : free l ≤ l.length := List.countP_le_length
structure DrOk (d : Dr) (z : Nat) : Prop where
  rg : RgOk d.r z
  len : d.busy.length = d.r.n
  ch : ∀ k c, d.ch k = some c → ∀ i ∈ c, i < d.r.n
structure Usd where
  h : Nat
  l : Nat
  e : Int
  d : Dr
def unbusy (busy : List Bool) (c : List Nat) : List Bool := c.foldl (fun b i => b.set i false) busy
theorem unbusy_len (c : List Nat) : ∀ busy, (unbusy busy c).length = busy.length := by
  induction c with
  | nil => intro b; rfl
  | cons i c ih => intro b; show (unbusy (b.set i false) c).length = _; rw [ih, List.length_set]
theorem unbusy_snoc (busy : List Bool) (c : List Nat) (i : Nat) : unbusy busy (c ++ [i]) = (unbusy busy c).set i false := by unfold unbusy; rw [List.foldl_append]; rfl
def Dr.used (d : Dr) (m : List UInt8) : Usd :=
  if lget m (d.r.base + (18 * d.r.n + 4 + 2)) 2 = d.r.use then ⟨0, 0, 2, d⟩ else
    match d.ch (lget m (d.r.base + d.r.usedAt) 4) with
    | none => ⟨0, 0, 15, { d with r := d.r.stepU }⟩
    | some c => ⟨lget m (d.r.base + d.r.usedAt) 4, lget m (d.r.base + (d.r.usedAt + 4)) 4, 0, ⟨d.r.stepU, unbusy d.busy c, fun j => if j = (lget m (d.r.base + d.r.usedAt) 4 : Nat) then none else d.ch j⟩⟩
section
variable {w : World} {L : List HP} {db mb o N c : Nat} {d : Dr} {m : List UInt8}
theorem take_nat {l : List Nat} {j x : Nat} (h : l[j]? = some x) : l.take (j + 1) = l.take j ++ [x] := by rw [List.take_add_one, h]; rfl
theorem key_ch : KeyInt Try.prog 67 55 (.slice none 0 0) := .of (kt := 3) Try.underlying67 Try.underlying3 (by kernel_rfl)
set_option maxRecDepth 100000 in
theorem free_eq {z : Nat} (ok : DrOk d z) (h : SatL w (DrvR db mb o d :: L)) :
    Calls Try.prog 16 #[.pointer (some ⟨db, 0, none⟩)] w (Ret fun v w' => v = .int .i64 (free d.busy : Nat) ∧ w = w') := by
  obtain ⟨bv, mp, h1⟩ := sat_DrvR.1 h
  have hn := pow2_le ok.rg.pw
  have hlen := ok.len
  obtain ⟨a, cc, rfl, l1, l2⟩ := Sl.valn (SatL.pull h1 1 : SatL w (Sl _ _ _ :: _)) (m := d.busy.length) (by rw [List.length_map])
  have c4 : w.cell? ⟨db, 4, none⟩ = some (.slice a d.busy.length cc) := SatL.cell h1 (i := 4) rfl
  have hlb : d.busy.length ≤ 256 := by omega
  have h2 := (SatL.pull h1 1 : SatL w (Sl _ _ _ :: _))
  clear h h1 ok hlen hn
  generalize d.busy = bl at *
  go_enter Try.func16, Try.ntmps16
  go_wp2
  go_loopw [3, 11] (fun s i wr => ∃ j : Nat, j ≤ bl.length ∧ i = .int .i64 j ∧ s = .int .i64 (free (bl.take j) : Nat) ∧ w = wr) (fun _ i _ => bl.length - (intOf i).toNat)
  case atStart => exact ⟨0, by omega, rfl, rfl, rfl⟩
  case round =>
    obtain ⟨j, hj, rfl, rfl, rfl⟩ := hrel
    by_cases hlt : j < bl.length
    · have hb : bl[j]? = some bl[j] := List.getElem?_eq_getElem hlt
      obtain ⟨b, off, rfl⟩ := Sl.addr h2 (by omega)
      have cj := Sl.cell h2 (i := j) (x := .bool bl[j]) (by rw [List.getElem?_map, hb]; rfl)
      have hfr := hid (free_take hb)
      have hfl := Nat.le_trans (free_le (bl.take j)) (List.length_take_le j bl)
      have hjz : (j : Int) < bl.length := by omega
      clear hb
      generalize free (bl.take j) = f0 at *
      generalize bl[j] = bj at *
      cases bj with
      | false =>
        go_wp2
        go_roundw
        case rel => exact ⟨j + 1, by omega, by go_num, by rw [hfr.out]; go_num, trivial⟩
        case measure => simp [intOf]; omega
      | true =>
        go_wp2
        go_roundw
        case rel => exact ⟨j + 1, by omega, by go_num, by rw [hfr.out]; rfl, trivial⟩
        case measure => simp [intOf]; omega
    · obtain rfl : j = bl.length := by omega
      rw [List.take_length] at *
      go_wp2
      go_ret
      exact Ret.mk ⟨rfl, rfl⟩
theorem drv_cells {bv : Value} {mp : Nat} (h : SatL w (cl db 69 (ringV mb o d.r ++ [bv, .map (some mp)]).toArray :: L)) : w.cell? ⟨db, 0, none⟩ = some (.slice (some ⟨mb, o + d.r.base, none⟩) (qs d.r.n) (qs d.r.n)) ∧ w.cell? ⟨db, 1, none⟩ = some (.int .i64 d.r.n) ∧ w.cell? ⟨db, 2, none⟩ = some (.int .i64 d.r.off) ∧ w.cell? ⟨db, 3, none⟩ = some (.int .i64 d.r.use) ∧ w.cell? ⟨db, 4, none⟩ = some bv ∧ w.cell? ⟨db, 5, none⟩ = some (.map (some mp)) :=
  ⟨h.cell (i := 0) rfl, h.cell (i := 1) rfl, h.cell (i := 2) rfl, h.cell (i := 3) rfl, h.cell (i := 4) rfl, h.cell (i := 5) rfl⟩
set_option maxRecDepth 100000 in
set_option maxHeartbeats 4000000 in
theorem used_ok (ok : DrOk d m.length) (h : SatL w (DrvR db mb o d :: SlB 5 (.slice (some ⟨mb, o, none⟩) N c) m :: L)) :
    Calls Try.prog 15 #[.pointer (some ⟨db, 0, none⟩)] w (Ret fun v w' => v = .tuple #[.int .i64 (d.used m).h, .int .i64 (d.used m).l, .int .i64 (d.used m).e] ∧ SatL w' (DrvR db mb o (d.used m).d :: SlB 5 (.slice (some ⟨mb, o, none⟩) N c) m :: L)) := by
  obtain ⟨bv, mp, h1⟩ := sat_DrvR.1 h
  clear h
  obtain ⟨⟨pw, fit, ob, ub⟩, hbl, hch⟩ := ok
  have hn := pow2_le pw
  have hqs : qs d.r.n = 8 + 26 * d.r.n := rfl
  have hua := usedAt_le d.r (by omega)
  have hq1 := hid (fun (w' : World) (X : List HP) (h : SatL w' (cl db 69 (ringV mb o d.r ++ [bv, .map (some mp)]).toArray :: X)) (k : Nat) => quietR (n := k) (vback_ok (w := w'.drewN k) (rb := db) (n := d.r.n) hn.2 (drv_cells h).2.1))
  have hg : Hid (∀ (w' : World) (X : List HP) (a k : Nat), sizeOk k → a + k ≤ qs d.r.n → w'.cell? ⟨db, 0, none⟩ = some (.slice (some ⟨mb, o + d.r.base, none⟩) (qs d.r.n) (qs d.r.n)) → SatL w' (SlB 5 (.slice (some ⟨mb, o, none⟩) N c) m :: X) → ∀ q,
        Calls Try.prog 28 #[.pointer (some ⟨db, 0, none⟩), .int .i64 a, .int .i64 k] (w'.drewN q) fun e w'' => e = .returned (.int .u64 (lget m (d.r.base + a) k : Nat)) ∧ ∃ z, w'' = w'.drewN z) :=
      hid (fun w' X a k hk ha hc h q => quietR (n := q) (vget_ok (w := w'.drewN q) (rb := db) hk ha fit (by rw [hqs]; omega) hc (RdB.drewN (SlB.rd h) q)))
  obtain ⟨c0, c1, c2, c3, c4, c5⟩ := drv_cells h1
  have q1 := hq1.out _ _ h1
  have q2 := hg.out w _ (18 * d.r.n + 4 + 2) 2 (.inr (.inl rfl)) (by rw [hqs]; omega) c0 (h1.pull 3)
  rw [show ((18 * d.r.n + 4 + 2 : Nat) : Int) = ((18 * d.r.n + 4 : Nat) : Int) + 2 by omega, show ((2 : Nat) : Int) = 2 from rfl] at q2
  have hres : d.used m = if lget m (d.r.base + (18 * d.r.n + 4 + 2)) 2 = d.r.use then ⟨0, 0, 2, d⟩ else
    match d.ch (lget m (d.r.base + d.r.usedAt) 4) with
    | none => ⟨0, 0, 15, { d with r := d.r.stepU }⟩
    | some c => ⟨lget m (d.r.base + d.r.usedAt) 4, lget m (d.r.base + (d.r.usedAt + 4)) 4, 0, ⟨d.r.stepU, unbusy d.busy c, fun j => if j = (lget m (d.r.base + d.r.usedAt) 4 : Nat) then none else d.ch j⟩⟩ := rfl
  generalize d.used m = res at *
  have hgl : lget m (d.r.base + (18 * d.r.n + 4 + 2)) 2 < 65536 := lget_lt m _ 2
  have hkb : 18 * d.r.n + 4 ≤ 5000 := by omega
  by_cases ht : lget m (d.r.base + (18 * d.r.n + 4 + 2)) 2 = d.r.use
  · rw [if_pos ht] at hres
    subst hres
    have d1 : (((lget m (d.r.base + (18 * d.r.n + 4 + 2)) 2 : Nat) : Int) == ((d.r.use : Nat) : Int)) = true := by rw [ht]; simp
    generalize lget m (d.r.base + (18 * d.r.n + 4 + 2)) 2 = hd at *
    generalize 18 * d.r.n + 4 = K at *
    have w1 : IntKind.i64.wrap ((K : Int) + 2) = (K : Int) + 2 := IntWalk.i64_in _ (by omega)
    have w6 : IntKind.i64.wrap (hd : Int) = (hd : Int) := IntWalk.i64_in _ (by omega)
    have H0 := hid h1
    clear h1 pw fit ob ub hbl hch hn hqs hua hq1 hg ht
    go_enter Try.func15, Try.ntmps15
    go_wp2
    go_quiet (first | (go_at_call 29; (with_reducible exact q1 _)) | (go_at_call 28; (with_reducible exact q2 _)))
    go_wp2
    go_ret3
    exact Ret.mk ⟨rfl, sat_DrvR.2 ⟨_, _, sat_dn.2 H0.out⟩⟩
  · rw [if_neg ht] at hres
    have d1 : (((lget m (d.r.base + (18 * d.r.n + 4 + 2)) 2 : Nat) : Int) == ((d.r.use : Nat) : Int)) = false := by simp; omega
    obtain ⟨q, hq⟩ : ∃ q, q = d.r.use % d.r.n := ⟨_, rfl⟩
    have hqn : q < d.r.n := by rw [hq]; exact Nat.mod_lt _ (by omega)
    have e1 : Int.tmod (d.r.use : Int) (d.r.n : Int) = (q : Int) := by rw [Int.tmod_eq_emod_of_nonneg (by omega), hq]; rfl
    have e2 : (d.r.use : Int) % (d.r.n : Int) = (q : Int) := by rw [hq]; rfl
    have hnz : ¬ (d.r.n : Int) = 0 := by omega
    have hU : d.r.usedAt = 18 * d.r.n + 4 + 4 + 8 * q := by unfold Ring.usedAt; rw [← hq]
    have hUi : ((18 * d.r.n + 4 : Nat) : Int) + 4 + 8 * (q : Int) = (d.r.usedAt : Int) := by rw [hU]; omega
    have hU2 : d.r.usedAt ≤ 10000 := by omega
    have hub : (d.r.use : Int) < 65536 := by omega
    have hro : (d.r.use + 1) % 65536 < 65536 := Nat.mod_lt _ (by omega)
    have hset : Hid (∀ (w' : World) (X : List HP), SatL w' (cl db 69 (ringV mb o d.r ++ [bv, .map (some mp)]).toArray :: X) → SatL (w'.setCell ⟨db, 3, none⟩ (.int .i64 ((d.r.use + 1) % 65536 : Nat))) (cl db 69 (ringV mb o d.r.stepU ++ [bv, .map (some mp)]).toArray :: X)) := hid (fun w' X h => h.set (i := 3) (.int .i64 ((d.r.use + 1) % 65536 : Nat)))
    have hcl2 : Hid (∀ (w' : World) (X : List HP), SatL w' (cl db 69 (ringV mb o d.r.stepU ++ [bv, .map (some mp)]).toArray :: X) → w'.cell? ⟨db, 0, none⟩ = some (.slice (some ⟨mb, o + d.r.base, none⟩) (qs d.r.n) (qs d.r.n)) ∧ w'.cell? ⟨db, 4, none⟩ = some bv ∧ w'.cell? ⟨db, 5, none⟩ = some (.map (some mp))) := hid (fun w' X h => ⟨h.cell (i := 0) rfl, h.cell (i := 4) rfl, h.cell (i := 5) rfl⟩)
    have hnx := hid (vnext_ok ub)
    have hgA := hid (fun (w' : World) (X : List HP) (hc) (h) => hg.out w' X d.r.usedAt 4 (.inr (.inr (.inl rfl))) (by omega) hc h)
    have hgB := hid (fun (w' : World) (X : List HP) (hc) (h) => hg.out w' X (d.r.usedAt + 4) 4 (.inr (.inr (.inl rfl))) (by omega) hc h)
    simp only [show ((d.r.usedAt + 4 : Nat) : Int) = (d.r.usedAt : Int) + 4 by omega, show ((4 : Nat) : Int) = 4 from rfl] at hgA hgB
    have bA : lget m (d.r.base + d.r.usedAt) 4 < 4294967296 := lget_lt m _ 4
    have bB : lget m (d.r.base + (d.r.usedAt + 4)) 4 < 4294967296 := lget_lt m _ 4
    obtain ⟨ba, bc, rfl, lb1, lb2⟩ := Sl.valn (SatL.pull h1 1 : SatL w (Sl _ _ _ :: _)) (m := d.r.n) (by rw [List.length_map, hbl])
    obtain ⟨bb, bo, rfl⟩ := Sl.addr (SatL.pull h1 1 : SatL w (Sl _ _ _ :: _)) (by omega)
    have Hch := hid (fun (k : Int) (ch : List Nat) (hc : d.ch k = some ch) (i : Nat) (hi : i ∈ ch) => (hch k ch hc i hi))
    generalize lget m (d.r.base + (18 * d.r.n + 4 + 2)) 2 = hd at *
    generalize lget m (d.r.base + d.r.usedAt) 4 = xh at *
    generalize lget m (d.r.base + (d.r.usedAt + 4)) 4 = xl at *
    generalize (d.r.use + 1) % 65536 = ro at *
    generalize d.r.usedAt = U at *
    generalize 18 * d.r.n + 4 = K at *
    have w1 : IntKind.i64.wrap ((K : Int) + 2) = (K : Int) + 2 := IntWalk.i64_in _ (by omega)
    have w6 : IntKind.i64.wrap (hd : Int) = (hd : Int) := IntWalk.i64_in _ (by omega)
    have w7 : IntKind.i64.wrap ((K : Int) + 4) = (K : Int) + 4 := IntWalk.i64_in _ (by omega)
    have w2 : IntKind.i64.wrap (8 * (q : Int)) = 8 * (q : Int) := IntWalk.i64_in _ (by omega)
    have w3 : IntKind.i64.wrap ((K : Int) + 4 + 8 * (q : Int)) = (U : Int) := by rw [hUi]; exact IntWalk.i64_in _ (by omega)
    have w4 : IntKind.i64.wrap (q : Int) = (q : Int) := IntWalk.i64_in _ (by omega)
    have w5 : IntKind.i64.wrap ((U : Int) + 4) = (U : Int) + 4 := IntWalk.i64_in _ (by omega)
    have w8 : IntKind.i64.wrap (xh : Int) = (xh : Int) := IntWalk.i64_in _ (by omega)
    have w9 : IntKind.i64.wrap (xl : Int) = (xl : Int) := IntWalk.i64_in _ (by omega)
    have hroz : (ro : Int) < 65536 := by omega
    have hnz2 : (d.r.n : Int) ≤ 256 := by omega
    have H0 := hid h1
    have Hn := hid hn
    have Hbl := hid hbl
    have Hres := hid hres
    clear h1 pw fit ob ub hbl hch hn hqs hua hg ht hU hUi hq hres hgl hro
    go_enter Try.func15, Try.ntmps15
    go_wp2
    go_quiet (first | (go_at_call 29; (with_reducible exact q1 _)) | (go_at_call 28; (with_reducible exact q2 _)))
    have H1 := (sat_dn.2 H0.out : SatL (w.drewN nq) _)
    clear H0 q1 q2 c0 c1 c2 c3 c4 c5
    generalize w.drewN nq = wA at *
    obtain ⟨c0, c1, c2, c3, c4, c5⟩ := drv_cells H1
    have q3 := hq1.out _ _ H1
    have H1' := hid H1
    clear H1 hq1
    go_wp2
    go_quiet (first | (go_at_call 29; (with_reducible exact q3 _)))
    have H2 := (sat_dn.2 H1'.out : SatL (wA.drewN nq) _)
    clear H1' q3 c0 c1 c2 c3 c4 c5 w1 w2 w3 w4 w6 w7 d1 e1 e2 hqn hkb
    generalize wA.drewN nq = wB at *
    obtain ⟨c0, c1, c2, c3, c4, c5⟩ := drv_cells H2
    have f3 := H2.free 3
    have k1 := hnx.out wB
    have H3 := hset.out _ _ H2
    clear H2 hset
    go_upto_region 5 with (first
      | (go_at_call 27; (with_reducible refine k1.mono ?_); rintro e w2 ⟨v, rfl, rfl, rfl⟩))
    clear k1 hnx c0 c1 c2 c3 c4 c5 f3
    generalize wB.setCell ⟨db, 3, none⟩ (.int .i64 ro) = wC at *
    obtain ⟨c0, c4, c5⟩ := hcl2.out _ _ H3
    have q4 := hgA.out wC _ c0 (H3.pull 3)
    have q5 := hgB.out wC _ c0 (H3.pull 3)
    have H3' := hid H3
    clear H3 hgA hgB
    go_quiet (first | (go_at_call 28; (with_reducible exact q4 _)) | (go_at_call 28; (with_reducible exact q5 _)))
    have H4 := (sat_dn.2 H3'.out : SatL (wC.drewN nq) _)
    clear H3' q4 q5 c0 c4 c5
    generalize wC.drewN nq = wD at *
    obtain ⟨c0, c4, c5⟩ := hcl2.out _ _ H4
    cases hc : d.ch (xh : Int) with
    | none =>
      have hres := Hres.out
      rw [hc] at hres
      simp only at hres
      subst hres
      obtain ⟨es, hm, h5⟩ := mapf_none (H4.pull 2 : SatL wD (MapF _ _ _ :: _)) hc
      have hlk := run_lookup_ok_sl key_ch h5 (xh : Int)
      rw [hm] at hlk
      simp only [Option.getD_none, Option.isSome_none] at hlk
      have H4' := hid H4
      clear H4 h5 hc hm Hres
      go_wp2
      go_ret3
      exact Ret.mk ⟨rfl, sat_DrvR.2 ⟨_, _, H4'.out⟩⟩
    | some ch =>
      have hres := Hres.out
      rw [hc] at hres
      simp only at hres
      subst hres
      obtain ⟨es, v, L0, hm, h5, hback⟩ := mapf_take (H4.pull 2 : SatL wD (MapF _ _ _ :: _)) hc
      have hlk := run_lookup_ok_sl key_ch h5 (xh : Int)
      rw [hm] at hlk
      simp only [Option.getD_some, Option.isSome_some] at hlk
      obtain ⟨va, vc, rfl, v1, v2⟩ := Sl.valn (SatL.pull h5 1 : SatL wD (Sl _ _ _ :: _)) (m := ch.length) (by unfold natV; rw [List.length_map])
      have hin := hid (Hch.out _ _ hc)
      have Hback := hid hback
      clear hc hm Hres hback Hch
      have H4' := hid H4
      clear H4
      go_wp2_with (first
        | (refine wpList_delete_sl rfl (.tmp 83) (.tmp 84) rfl key_ch rfl h5 rfl ?_; intro w6 h6))
      have h7 : SatL w6 (Sl 4 (.slice (some ⟨bb, bo, none⟩) d.r.n bc) ((unbusy d.busy (ch.take 0)).map Value.bool) :: NatsL (.slice va ch.length vc) ch :: cl db 69 (ringV mb o d.r.stepU ++ [Value.slice (some ⟨bb, bo, none⟩) d.r.n bc, Value.map (some mp)]).toArray :: MapI mp (mdel es xh) :: L0 :: SlB 5 (.slice (some ⟨mb, o, none⟩) N c) m :: L) := h6.bring [4, 1, 3, 0, 2]
      clear h6 h5 hlk c0 H4'
      go_loopw [87] (fun i wr => ∃ j : Nat, j ≤ ch.length ∧ i = .int .i64 j ∧ SatL wr (Sl 4 (.slice (some ⟨bb, bo, none⟩) d.r.n bc) ((unbusy d.busy (ch.take j)).map Value.bool) :: NatsL (.slice va ch.length vc) ch :: cl db 69 (ringV mb o d.r.stepU ++ [Value.slice (some ⟨bb, bo, none⟩) d.r.n bc, Value.map (some mp)]).toArray :: MapI mp (mdel es xh) :: L0 :: SlB 5 (.slice (some ⟨mb, o, none⟩) N c) m :: L)) (fun i _ => ch.length - (intOf i).toNat)
      case atStart => exact ⟨0, by omega, rfl, h7⟩
      case round =>
        clear h7 c4 c5
        obtain ⟨j, hj, rfl, hs⟩ := hrel
        by_cases hlt : j < ch.length
        · obtain ⟨ci, hcj⟩ : ∃ ci, ch[j]? = some ci := ⟨_, List.getElem?_eq_getElem hlt⟩
          have hin2 := hin.out _ (List.mem_of_getElem? hcj)
          have hs2 := (hs.pull 1 : SatL wr (Sl _ _ _ :: _))
          obtain ⟨b1, o1, rfl⟩ := Sl.addr hs2 (by omega)
          have ci1 := Sl.cell hs2 (i := j) (x := .int .i64 (ci : Nat)) (by unfold natV; rw [List.getElem?_map, hcj]; rfl)
          obtain ⟨c0, c4, c5⟩ := hcl2.out _ _ (hs.pull 2 : SatL wr (cl _ _ _ :: _))
          have hlu : ((unbusy d.busy (ch.take j)).map Value.bool).length = d.r.n := by rw [List.length_map, unbusy_len]; exact Hbl.out
          have hset2 := Sl.set hs (i := ci) (by rw [hlu]; exact hin2) (.bool false)
          rw [← List.map_set, ← unbusy_snoc, ← take_nat hcj] at hset2
          have fr := Sl.free hs (bo + ci)
          obtain ⟨ub, cu⟩ : ∃ u, wr.cell? ⟨bb, bo + ci, none⟩ = some u := ⟨_, Sl.cell hs (List.getElem?_eq_getElem (show ci < ((unbusy d.busy (ch.take j)).map Value.bool).length by rw [hlu]; exact hin2))⟩
          have hjz : (j : Int) < ch.length := by omega
          have hiz : (ci : Int) < d.r.n := by omega
          have Hset := hid hset2
          clear hs hs2 hset2 hcj c0 hlu
          go_wp2
          go_roundw
          case rel => exact ⟨j + 1, by omega, by go_num, by exact Hset.out⟩
          case measure => simp [intOf]; omega
        · obtain rfl : j = ch.length := by omega
          rw [List.take_length] at hs
          have hfin := Hback.out wr _ (hs.bring [3, 4, 0, 1, 2, 5])
          have hfin2 : SatL wr (DrvR db mb o ⟨d.r.stepU, unbusy d.busy ch, fun j => if j = (xh : Nat) then none else d.ch j⟩ :: SlB 5 (.slice (some ⟨mb, o, none⟩) N c) m :: L) := sat_DrvR.2 ⟨_, _, SatL.tail (hfin.bring [2, 3, 1, 0, 4])⟩
          go_wp2
          go_ret3
          exact Ret.mk ⟨rfl, hfin2⟩
end
end Go.Proofs.Ytnniipeoahpkcaa
