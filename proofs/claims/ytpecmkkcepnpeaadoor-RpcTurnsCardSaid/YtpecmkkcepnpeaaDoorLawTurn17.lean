/- RpcTurns: the law's walk. Condition: errors.errorType's cell holds the type's handle. -/
import Derived.Test.YtpecmkkcepnpeaaDoorLawCalls
import Derived.Test.YtpecmkkcepnpeaaDoorRxV
import Derived.Test.YtpecmkkcepnpeaaDoorRpcArgB
namespace Go.Proofs.YtpecmkkcepnpeaaDoor
set_option linter.unusedVariables false
set_option linter.unusedSimpArgs false
open Go.RowKit
section
variable {w : World} {L : List HP}
/-- integers that came in -/
def TurnInts (a : Option Addr) (n : Nat) (A : Nat → Int) (w : World) : Prop :=
  n ≤ 9223372036854775807 ∧ (0 < n → ∃ b o, a = some ⟨b, o, none⟩ ∧ ∀ i, i < n → w.cell? ⟨b, o + i, none⟩ = some (.int .i64 (A i)))
theorem TurnInts.old {w0 : World} {a : Option Addr} {n : Nat} {A : Nat → Int} (h : TurnInts a n A w0) : Gives [Go.Proofs.YtpecmkkcepnpeaaDoor.old w0] (TurnInts a n A) := fun w hw => by
  obtain ⟨h1, h2⟩ := h
  refine ⟨h1, fun h0 => ?_⟩
  obtain ⟨b, o, e, hc⟩ := h2 h0
  exact ⟨b, o, e, fun i hi => hw.oldCell (hc i hi)⟩
theorem RdV.pre {a : Option Addr} {n c m : Nat} {l : List UInt8} {w : World} (h : RdV (.slice a n c) l w) (hm : m ≤ l.length) : RdV (.slice a m c) (l.take m) w := by
  rcases h with ⟨h0, rfl⟩ | ⟨A, c', h0, h1', h2', h3'⟩
  · cases h0
    obtain rfl : m = 0 := by simpa using hm
    exact .inl ⟨rfl, rfl⟩
  · cases h0
    have hl : (l.take m).length = m := by simp; omega
    refine .inr ⟨A, c, by rw [hl], by omega, h2', fun h0 => ?_⟩
    obtain ⟨b', off', rfl, h4'⟩ := h3' (by omega)
    refine ⟨b', off', rfl, fun i hi => ?_⟩
    rw [h4' i (by omega)]
    simp only [List.getD_eq_getElem?_getD, List.getElem?_take]
    rw [if_pos (by omega)]
theorem turnByte (x y : Nat) : Value.int .u8 (((x : Int) + (y : Int)) % 256) = bv (byteOf (x + y)) := by
  show Value.int .u8 _ = Value.int .u8 ((byteOf (x + y)).toNat : Int)
  rw [byteOf_nat]
  congr 1
theorem bytes_size (c : CallL) (hb : c.body.length ≤ 3000) : 40 ≤ c.bytes.length ∧ c.bytes.length ≤ 4000 := by
  unfold CallL.bytes
  simp only [List.length_append, be4_len, hib_len, CallL.who_len, List.length_take, List.length_cons, List.length_nil]
  omega
/-- append, at an operation that is guarded on -/
theorem wpList_append_slG {P : Program} {T k n bytes : Nat} {v : Value} {xs zs : List Value} {l : List HP} {ops : Array Oper} {rest : List Oper} {o : Oper} {a : Act} {Q : Exit → Act → World → Prop} (hw : Region.wanted o (yielded ops a.tmps) = true) (s x : Operand) {t u : Nat}
    (ho : o.op = .call { callee := .builtin .append, args := #[s, x], argTypes := #[t, u] }) (E : ElemOk P t T k bytes zs)
    (hs : a.eval s = v) (h : SatL w (SlK T k v n xs :: l)) {y : Value} (hy : a.eval x = y) {m : Nat} {ys : List Value} (hx : SrcOk P u k w y m ys)
    (h1 : ∀ y ∈ ys, y.oneCell' = true) (hb : (n + m) * bytes ≤ 140737488355328) (h63 : n + m ≤ maxLen)
    (K : ∀ v' w', SatL w' (SlK T k v' (n + m) (xs ++ ys) :: l) → (v' = .slice none 0 0 ↔ v = .slice none 0 0 ∧ m = 0) → wpList P ops Q rest (a.put o.dst v') w') : wpList P ops Q (o :: rest) a w :=
  wpList_step fun _ hK => by
    rw [if_pos hw]
    obtain ⟨v', w', hr, h2, h3⟩ := run_append_sl (ty := o.type) E h hx h1 hb h63
    unfold Oper.wp execOp
    simp only [ho, resolve, invoke, builtin, Sem.run_bind, Sem.run_pure, Result.andThen_ok, List.map_toArray, List.map_cons, List.map_nil, hs, hy, hr]
    exact hK _ _ (K v' w' h2 h3)
theorem wpList_newcopyG {ops : Array Oper} {rest : List Oper} {o : Oper} {a : Act} {Q : Exit → Act → World → Prop} {nb : Nat} (hnb : nb = w.heap.size) (hw : Region.wanted o (yielded ops a.tmps) = true) (s x : Operand)
    (ho : o.op = .call { callee := .builtin .append, args := #[s, x], argTypes := #[27, 27] }) (hs : a.eval s = .slice (some ⟨nb, 0, none⟩) 0 0) {v : Value} (hy : a.eval x = v)
    (h : SatL w L) {l : List UInt8} {n : Nat} (hln : l.length = n) (g : RdV v l w) (hl : n ≤ 1000000000) (K : ∀ a' c' w', n ≤ c' → SatL w' (SlB 5 (.slice a' n c') l :: L) → wpList Tryd.prog ops Q rest (a.put o.dst (.slice a' n c')) w') :
    wpList Tryd.prog ops Q (o :: rest) a (w.alloc (.cells #[] 5)) := by
  subst hnb; subst hln
  refine wpList_append_slG hw s x ho elem_byte hs (Sl_new0 rfl h) hy (SrcOk.ofRdV (RdV.alloc g _)) (bvs_one l) (by omega) (by unfold maxLen; omega) ?_
  intro v' w' h8 _
  have h9 : SatL w' (SlB 5 v' l :: L) := by simpa using Sl.ofK h8
  obtain ⟨a, c, rfl, h1, _⟩ := SlB.valn h9
  exact K a c w' h1 h9
set_option maxRecDepth 100000 in
set_option maxHeartbeats 8000000 in
theorem turns_walk {c : CallL} {by_ more : List UInt8} {gv bv yv mv : Value} {at_ : Option Addr} {an ac : Nat} {A : Nat → Int} {cut : Int} (w : World) (ok : c.ok) (hg : RdW gv c.gids w) (hbo : RdV bv c.body w) (hA : TurnInts at_ an A w) (hy : RdV yv by_ w) (hm : RdV mv more w) (hH : HndW w) :
    Calls Tryd.prog 11 #[.agg (callC c.xid c.prog c.vers c.proc c.uid c.gid gv bv), .slice at_ an ac, yv, .int .i64 cut, mv] w (Ret fun q w' => q = .bool true ∧ SatL w' [old w]) := by
  obtain ⟨gn, hgn⟩ : ∃ gn, c.gids.length = gn := ⟨_, rfl⟩
  obtain ⟨bn, hbn⟩ : ∃ bn, c.body.length = bn := ⟨_, rfl⟩
  obtain ⟨yn, hyn⟩ : ∃ yn, by_.length = yn := ⟨_, rfl⟩
  obtain ⟨mn, hmn⟩ : ∃ mn, more.length = mn := ⟨_, rfl⟩
  obtain ⟨ga, gc, rfl, p1, p2⟩ := hg.valn
  obtain ⟨ba, bc, rfl, _, _⟩ := hbo.valn
  obtain ⟨ya, yc, rfl, y1, y2⟩ := hy.valn
  obtain ⟨ma, mc, rfl, _, _⟩ := hm.valn
  rw [hgn] at hg p1 ⊢
  rw [hbn] at hbo ⊢
  rw [hyn] at hy y1 ⊢
  rw [hmn] at hm ⊢
  have hanl := hA.1
  have h0 := (sat_old w).alloc (.cells (callC c.xid c.prog c.vers c.proc c.uid c.gid (.slice ga gn gc) (.slice ba bn bc)) 30)
  have kK := known_ok h0 (fun w' h' => hH.old w' h'.tail)
  have HG := hid hg.old
  have HB := hid hbo.old
  have HY := hid hy.old
  have HM := hid hm.old
  have HA := hid hA.old
  have HH := hid hH.old
  have Ok := hid ok
  have Hbn := hid hbn
  have Hyn := hid hyn
  have Hmn := hid hmn
  clear hH hg hbo hy hm hA ok h0 hgn hbn hyn hmn
  by_cases l1 : 3000 < bn
  · have t1 : ((3000 : Int) < (bn : Int)) = True := by simp; omega
    have t1n : (3000 < bn) = True := by simp; omega
    clear l1
    go_enter Tryd.func11, Tryd.ntmps11
    go_wp2_with (first
      | (go_at_call 12; (with_reducible refine kK.mono ?_); rintro ev w1 ⟨q, rfl, rfl, hs⟩; have x7 := SatL.cell (hs : SatL w1 (cl _ _ _ :: _)) (i := 7) (v := .slice ba bn bc) rfl))
    go_ret
    exact Ret.mk ⟨rfl, hs.tail⟩
  by_cases l2 : 3000 < mn
  · have t1 : ((3000 : Int) < (bn : Int)) = False := by simp; omega
    have t1n : (3000 < bn) = False := by simp; omega
    have t2 : ((3000 : Int) < (mn : Int)) = True := by simp; omega
    have t2n : (3000 < mn) = True := by simp; omega
    clear l1 l2
    go_enter Tryd.func11, Tryd.ntmps11
    go_wp2_with (first
      | (go_at_call 12; (with_reducible refine kK.mono ?_); rintro ev w1 ⟨q, rfl, rfl, hs⟩; have x7 := SatL.cell (hs : SatL w1 (cl _ _ _ :: _)) (i := 7) (v := .slice ba bn bc) rfl))
    go_ret
    exact Ret.mk ⟨rfl, hs.tail⟩
  have t1 : ((3000 : Int) < (bn : Int)) = False := by simp; omega
  have t1n : (3000 < bn) = False := by simp; omega
  have t2 : ((3000 : Int) < (mn : Int)) = False := by simp; omega
  have t2n : (3000 < mn) = False := by simp; omega
  have hsz := bytes_size c (by rw [Hbn.out]; omega)
  have hmn3 : mn ≤ 3000 := by omega
  obtain ⟨n, hn⟩ : ∃ n, c.bytes.length = n := ⟨_, rfl⟩
  rw [hn] at hsz
  have Hn := hid hn
  have Hsz := hid hsz
  have Hmn3 := hid hmn3
  have hlb := hid (show c.body.length ≤ 10000000 by rw [Hbn.out]; omega)
  clear l1 l2 hn hsz hmn3
  go_enter Tryd.func11, Tryd.ntmps11
  go_upto_region 5 with (first
    | (go_at_call 12; (with_reducible refine kK.mono ?_); rintro ev w1 ⟨q, rfl, rfl, hs⟩; have x7 := SatL.cell (hs : SatL w1 (cl _ _ _ :: _)) (i := 7) (v := .slice ba bn bc) rfl))
  have hs' : SatL w1 (cl w.heap.size 30 #[.int .u32 (c.xid : Int), .int .u32 (c.prog : Int), .int .u32 (c.vers : Int), .int .u32 (c.proc : Int), .int .u32 (c.uid : Int), .int .u32 (c.gid : Int), .slice ga gn gc, .slice ba bn bc] :: [old w]) := hs
  generalize w.heap.size = c5 at hs' x7 ⊢
  clear x7 kK hs
  obtain ⟨x0, x1, x2, x3, x4, x5, x6, x7⟩ := set8r_sat hs'
  have kT := theirs_ok (xi := c.xid) (pr := c.prog) (ve := c.vers) (po := c.proc) (ui := c.uid) (gi := c.gid) (ga := ga) (gn := gn) (gc := gc) (ba := ba) (bn := bn) (bc := bc) hs'
  clear hs'
  go_upto_region 6 with (first
    | (go_at_call 24; (with_reducible refine kT.mono ?_); rintro ev w2 ⟨q, rfl, rfl, h2⟩; have kR := refwrite_ok (c := c) (gv := .slice ga gn gc) (bv := .slice ba bn bc) Ok.out hlb.out h2 (fun w' h' => HG.out w' h'.tail) (fun w' h' => HB.out w' h'.tail); clear h2 kT x0 x1 x2 x3 x4 x5 x6 x7)
    | (go_at_call 23; (with_reducible refine kR.mono ?_); rintro ev w3 ⟨q, rfl, h3⟩; obtain ⟨wa, wk, rfl, wl, _⟩ := Sl.valn h3 (m := n) (by rw [bvs_len]; exact Hn.out); clear kR))
  have h4 : SatL w3 (SlB 5 (.slice wa n wk) c.bytes :: [old w]) := h3.swap.tail
  obtain ⟨wb, wo, rfl⟩ := Sl.addr h4 (by have := Hsz.out; omega)
  clear h3
  go_upto_block 0 with fail
  go_cut [12, 13] from 28 to 66 (fun _ _ wx => ∃ bs : List UInt8, bs.length = n ∧ SatL wx (SlB 5 (.slice (some ⟨wb, wo, none⟩) n wk) bs :: [old w]))
  case first =>
    have hn0 : ((n : Int) == 0) = false := by have := Hsz.out; simp; omega
    have hn1 : ¬ (n : Int) = 0 := by have := Hsz.out; omega
    have hn2 : ¬ n = 0 := by have := Hsz.out; omega
    go_wp2_with fail
    go_loopw [12] (fun i wr => ∃ (k : Nat) (bs : List UInt8), k ≤ 6 ∧ i = .int .i64 (k : Int) ∧ bs.length = n ∧ SatL wr (SlB 5 (.slice (some ⟨wb, wo, none⟩) n wk) bs :: [old w])) (fun i _ => 6 - (intOf i).toNat)
    case atStart => exact ⟨0, c.bytes, by omega, rfl, Hn.out, h4⟩
    case round =>
      clear h4
      obtain ⟨k, bs, hk6, rfl, hbl, hs⟩ := hrel
      by_cases hgo : k < an ∧ k < yn ∧ k < 6
      · obtain ⟨j1, j2, j3⟩ := hgo
        obtain ⟨ab, ao, rfl, hac⟩ := (HA.out wr hs.tail).2 (by omega)
        obtain ⟨z1, z2, z3, yb, yo, rfl, hyc⟩ := ((HY.out wr hs.tail).b (by rw [Hyn.out]; omega)).at (by rw [Hyn.out]; omega)
        have ca := hac k j1
        have cy := hyc k (by rw [Hyn.out]; exact j2)
        have j1z : (k : Int) < an := by omega
        have j2z : (k : Int) < yn := by omega
        have j3z : (k : Int) < 6 := by omega
        have hm1 : (A k).tmod n < n := Int.tmod_lt_of_pos _ (by have := Hsz.out; omega)
        have hm2 : -(n : Int) < (A k).tmod n := Int.lt_tmod_of_pos _ (by have := Hsz.out; omega)
        obtain ⟨y, hyy⟩ : ∃ y, (by_.getD k 0).toNat = y := ⟨_, rfl⟩
        rw [hyy] at cy
        generalize A k = ak at *
        generalize hM : ak.tmod n = M at *
        have Hbl := hid hbl
        have hnb := Hsz.out
        have HMM := hid hM
        clear hac hyc hyy hbl z1 z2 z3
        by_cases hM0 : 0 ≤ M
        · obtain ⟨q, rfl⟩ : ∃ q : Nat, M = q := ⟨M.toNat, by omega⟩
          have q0 : (0 : Int) ≤ q := by omega
          have q5 : (q : Int) < n := by omega
          have q6 : q < n := by omega
          have hc := SlB.cell hs (i := q) (by rw [Hbl.out]; exact q6)
          have hf := Sl.free hs (wo + q)
          have Hset := hid (fun (x : Value) => Sl.set (sat_drew.2 hs) (i := q) (by rw [bvs_len, Hbl.out]; exact q6) x)
          obtain ⟨x, hX⟩ : ∃ x, (bs.getD q 0).toNat = x := ⟨_, rfl⟩
          rw [hX] at hc
          have S0 : wr.drew.cell? ⟨wb, wo + q, none⟩ = some (.int .u8 (x : Int)) ∧ wr.drew.cell? ⟨yb, yo + k, none⟩ = some (.int .u8 (y : Int)) := ⟨hc, cy⟩
          have hf2 : wr.drew.frozen? ⟨wb, wo + q, none⟩ = false := hf
          clear hX hm1 hm2 HMM hs hc hf
          go_upto_region 12 with fail
          refine GoE.start (fun w' => w'.cell? ⟨wb, wo + q, none⟩ = some (.int .u8 (x : Int)) ∧ w'.cell? ⟨yb, yo + k, none⟩ = some (.int .u8 (y : Int))) 12 13 rfl (by kernel_rfl) ?_
          generalize wr.drew = w4 at S0 hf2 Hset ⊢
          clear ca cy
          refine GoE.take (i := 0) (v := ?_) rfl (by decide) (by kernel_rfl) (by kernel_rfl) (by kernel_rfl) (by kernel_rfl) (fun _ _ _ h => h) (by rfl) ?_ (by assumption) ?_
          rotate_left
          · intro w hSw; (try dsimp only at hSw); go_simp; try (with_reducible rfl)
          try simp only [Act.put, List.setIfInBounds_toArray, List.set_cons_zero, List.set_cons_succ]
          refine GoE.take (i := 1) (v := ?_) rfl (by decide) (by kernel_rfl) (by kernel_rfl) (by kernel_rfl) (by kernel_rfl) (fun _ _ _ h => h) (by rfl) ?_ (by assumption) ?_
          rotate_left
          · intro w hSw; (try dsimp only at hSw); go_simp; try (with_reducible rfl)
          try simp only [Act.put, List.setIfInBounds_toArray, List.set_cons_zero, List.set_cons_succ]
          refine GoE.take (i := 2) (v := ?_) rfl (by decide) (by kernel_rfl) (by kernel_rfl) (by kernel_rfl) (by kernel_rfl) (fun _ _ _ h => h) (by rfl) ?_ (by assumption) ?_
          rotate_left
          · intro w hSw; (try dsimp only at hSw); go_simp; try (with_reducible rfl)
          try simp only [Act.put, List.setIfInBounds_toArray, List.set_cons_zero, List.set_cons_succ]
          refine GoE.take (i := 3) (v := ?_) rfl (by decide) (by kernel_rfl) (by kernel_rfl) (by kernel_rfl) (by kernel_rfl) (fun _ _ _ h => h) (by rfl) ?_ (by assumption) ?_
          rotate_left
          · intro w hSw; (try dsimp only at hSw); go_simp; try (with_reducible rfl)
          try simp only [Act.put, List.setIfInBounds_toArray, List.set_cons_zero, List.set_cons_succ]
          refine GoE.take (i := 4) (v := ?_) rfl (by decide) (by kernel_rfl) (by kernel_rfl) (by kernel_rfl) (by kernel_rfl) (fun _ _ _ h => h) (by rfl) ?_ (by assumption) ?_
          rotate_left
          · intro w hSw; (try dsimp only at hSw); go_simp; try (with_reducible rfl)
          try simp only [Act.put, List.setIfInBounds_toArray, List.set_cons_zero, List.set_cons_succ]
          refine GoE.take (i := 5) (v := ?_) rfl (by decide) (by kernel_rfl) (by kernel_rfl) (by kernel_rfl) (by kernel_rfl) (fun _ _ _ h => h) (by rfl) ?_ (by assumption) ?_
          rotate_left
          · intro w hSw; (try dsimp only at hSw); go_simp; try (with_reducible rfl)
          try simp only [Act.put, List.setIfInBounds_toArray, List.set_cons_zero, List.set_cons_succ]
          refine GoE.take (i := 6) (v := ?_) rfl (by decide) (by kernel_rfl) (by kernel_rfl) (by kernel_rfl) (by kernel_rfl) (fun _ _ _ h => h) (by rfl) ?_ (by assumption) ?_
          rotate_left
          · intro w hSw; (try dsimp only at hSw); go_simp; try (with_reducible rfl)
          try simp only [Act.put, List.setIfInBounds_toArray, List.set_cons_zero, List.set_cons_succ]
          refine GoE.take (i := 7) (v := ?_) rfl (by decide) (by kernel_rfl) (by kernel_rfl) (by kernel_rfl) (by kernel_rfl) (fun _ _ _ h => h) (by rfl) ?_ (by assumption) ?_
          rotate_left
          · intro w hSw; (try dsimp only at hSw); go_simp; try (with_reducible rfl)
          try simp only [Act.put, List.setIfInBounds_toArray, List.set_cons_zero, List.set_cons_succ]
          refine GoE.take (i := 8) (v := ?_) rfl (by decide) (by kernel_rfl) (by kernel_rfl) (by kernel_rfl) (by kernel_rfl) (fun _ _ _ h => h) (by rfl) ?_ (by assumption) ?_
          rotate_left
          · intro w hSw; (try dsimp only at hSw); go_simp; try (with_reducible rfl)
          try simp only [Act.put, List.setIfInBounds_toArray, List.set_cons_zero, List.set_cons_succ]
          refine GoE.take (i := 9) (v := ?_) rfl (by decide) (by kernel_rfl) (by kernel_rfl) (by kernel_rfl) (by kernel_rfl) (fun _ _ _ h => h) (by rfl) ?_ (by assumption) ?_
          rotate_left
          · intro w hSw; (try dsimp only at hSw); go_simp; try (with_reducible rfl)
          try simp only [Act.put, List.setIfInBounds_toArray, List.set_cons_zero, List.set_cons_succ]
          refine GoE.take (i := 10) (v := ?_) rfl (by decide) (by kernel_rfl) (by kernel_rfl) (by kernel_rfl) (by kernel_rfl) (fun _ _ _ h => h) (by rfl) ?_ (by assumption) ?_
          rotate_left
          · intro w hSw; (try dsimp only at hSw); go_simp; try (with_reducible rfl)
          try simp only [Act.put, List.setIfInBounds_toArray, List.set_cons_zero, List.set_cons_succ]
          refine GoE.take (i := 11) (v := ?_) rfl (by decide) (by kernel_rfl) (by kernel_rfl) (by kernel_rfl) (by kernel_rfl) (fun _ _ _ h => h) (by rfl) ?_ (by assumption) ?_
          rotate_left
          · intro w hSw; (try dsimp only at hSw); go_simp; try (with_reducible rfl)
          try simp only [Act.put, List.setIfInBounds_toArray, List.set_cons_zero, List.set_cons_succ]
          have c0 := S0.1
          clear S0
          refine GoE.one (i := 12) rfl (by kernel_rfl) (fun K hK => ?_)
          go_simp
          refine hK.out _ _ (fun h => absurd rfl h) ?_
          clear hK K
          try simp only [Act.put, List.setIfInBounds_toArray, List.set_cons_zero, List.set_cons_succ]
          refine GoE.done (by kernel_rfl) ?_
          go_wp2_with fail
          go_roundw
          case rel =>
            refine ⟨k + 1, bs.set q (byteOf (x + y)), by omega, by go_num, by rw [List.length_set]; exact Hbl.out, ?_⟩
            have := Hset.out (.int .u8 (((x : Int) + (y : Int)) % 256))
            rw [turnByte, show (bvs bs).set q (bv (byteOf (x + y))) = bvs (bs.set q (byteOf (x + y))) from by unfold bvs; rw [List.map_set]] at this
            rw [turnByte]
            exact this
          case measure => simp [intOf]; omega
        · obtain ⟨q, hq⟩ : ∃ q : Nat, M = -(q : Int) := ⟨(-M).toNat, by omega⟩
          subst hq
          have q0 : -(q : Int) < 0 := by omega
          have qq : (0 : Int) - -(q : Int) = q := by omega
          have qw : IntKind.i64.wrap (q : Int) = (q : Int) := IntWalk.i64_in _ (by omega)
          have q5 : (q : Int) < n := by omega
          have q6 : q < n := by omega
          have hc := SlB.cell hs (i := q) (by rw [Hbl.out]; exact q6)
          have hf := Sl.free hs (wo + q)
          have Hset := hid (fun (x : Value) => Sl.set (sat_drew.2 hs) (i := q) (by rw [bvs_len, Hbl.out]; exact q6) x)
          obtain ⟨x, hX⟩ : ∃ x, (bs.getD q 0).toNat = x := ⟨_, rfl⟩
          rw [hX] at hc
          have S0 : wr.drew.cell? ⟨wb, wo + q, none⟩ = some (.int .u8 (x : Int)) ∧ wr.drew.cell? ⟨yb, yo + k, none⟩ = some (.int .u8 (y : Int)) := ⟨hc, cy⟩
          have hf2 : wr.drew.frozen? ⟨wb, wo + q, none⟩ = false := hf
          clear hX hm1 hm2 HMM hs hc hf
          go_upto_region 12 with fail
          refine GoE.start (fun w' => w'.cell? ⟨wb, wo + q, none⟩ = some (.int .u8 (x : Int)) ∧ w'.cell? ⟨yb, yo + k, none⟩ = some (.int .u8 (y : Int))) 12 13 rfl (by kernel_rfl) ?_
          generalize wr.drew = w4 at S0 hf2 Hset ⊢
          clear ca cy
          refine GoE.take (i := 0) (v := ?_) rfl (by decide) (by kernel_rfl) (by kernel_rfl) (by kernel_rfl) (by kernel_rfl) (fun _ _ _ h => h) (by rfl) ?_ (by assumption) ?_
          rotate_left
          · intro w hSw; (try dsimp only at hSw); go_simp; try (with_reducible rfl)
          try simp only [Act.put, List.setIfInBounds_toArray, List.set_cons_zero, List.set_cons_succ]
          refine GoE.take (i := 1) (v := ?_) rfl (by decide) (by kernel_rfl) (by kernel_rfl) (by kernel_rfl) (by kernel_rfl) (fun _ _ _ h => h) (by rfl) ?_ (by assumption) ?_
          rotate_left
          · intro w hSw; (try dsimp only at hSw); go_simp; try (with_reducible rfl)
          try simp only [Act.put, List.setIfInBounds_toArray, List.set_cons_zero, List.set_cons_succ]
          refine GoE.take (i := 2) (v := ?_) rfl (by decide) (by kernel_rfl) (by kernel_rfl) (by kernel_rfl) (by kernel_rfl) (fun _ _ _ h => h) (by rfl) ?_ (by assumption) ?_
          rotate_left
          · intro w hSw; (try dsimp only at hSw); go_simp; try (with_reducible rfl)
          try simp only [Act.put, List.setIfInBounds_toArray, List.set_cons_zero, List.set_cons_succ]
          refine GoE.take (i := 3) (v := ?_) rfl (by decide) (by kernel_rfl) (by kernel_rfl) (by kernel_rfl) (by kernel_rfl) (fun _ _ _ h => h) (by rfl) ?_ (by assumption) ?_
          rotate_left
          · intro w hSw; (try dsimp only at hSw); go_simp; try (with_reducible rfl)
          try simp only [Act.put, List.setIfInBounds_toArray, List.set_cons_zero, List.set_cons_succ]
          refine GoE.take (i := 4) (v := ?_) rfl (by decide) (by kernel_rfl) (by kernel_rfl) (by kernel_rfl) (by kernel_rfl) (fun _ _ _ h => h) (by rfl) ?_ (by assumption) ?_
          rotate_left
          · intro w hSw; (try dsimp only at hSw); go_simp; try (with_reducible rfl)
          try simp only [Act.put, List.setIfInBounds_toArray, List.set_cons_zero, List.set_cons_succ]
          refine GoE.take (i := 5) (v := ?_) rfl (by decide) (by kernel_rfl) (by kernel_rfl) (by kernel_rfl) (by kernel_rfl) (fun _ _ _ h => h) (by rfl) ?_ (by assumption) ?_
          rotate_left
          · intro w hSw; (try dsimp only at hSw); go_simp; try (with_reducible rfl)
          try simp only [Act.put, List.setIfInBounds_toArray, List.set_cons_zero, List.set_cons_succ]
          refine GoE.take (i := 6) (v := ?_) rfl (by decide) (by kernel_rfl) (by kernel_rfl) (by kernel_rfl) (by kernel_rfl) (fun _ _ _ h => h) (by rfl) ?_ (by assumption) ?_
          rotate_left
          · intro w hSw; (try dsimp only at hSw); go_simp; try (with_reducible rfl)
          try simp only [Act.put, List.setIfInBounds_toArray, List.set_cons_zero, List.set_cons_succ]
          refine GoE.take (i := 7) (v := ?_) rfl (by decide) (by kernel_rfl) (by kernel_rfl) (by kernel_rfl) (by kernel_rfl) (fun _ _ _ h => h) (by rfl) ?_ (by assumption) ?_
          rotate_left
          · intro w hSw; (try dsimp only at hSw); go_simp; try (with_reducible rfl)
          try simp only [Act.put, List.setIfInBounds_toArray, List.set_cons_zero, List.set_cons_succ]
          refine GoE.take (i := 8) (v := ?_) rfl (by decide) (by kernel_rfl) (by kernel_rfl) (by kernel_rfl) (by kernel_rfl) (fun _ _ _ h => h) (by rfl) ?_ (by assumption) ?_
          rotate_left
          · intro w hSw; (try dsimp only at hSw); go_simp; try (with_reducible rfl)
          try simp only [Act.put, List.setIfInBounds_toArray, List.set_cons_zero, List.set_cons_succ]
          refine GoE.take (i := 9) (v := ?_) rfl (by decide) (by kernel_rfl) (by kernel_rfl) (by kernel_rfl) (by kernel_rfl) (fun _ _ _ h => h) (by rfl) ?_ (by assumption) ?_
          rotate_left
          · intro w hSw; (try dsimp only at hSw); go_simp; try (with_reducible rfl)
          try simp only [Act.put, List.setIfInBounds_toArray, List.set_cons_zero, List.set_cons_succ]
          refine GoE.take (i := 10) (v := ?_) rfl (by decide) (by kernel_rfl) (by kernel_rfl) (by kernel_rfl) (by kernel_rfl) (fun _ _ _ h => h) (by rfl) ?_ (by assumption) ?_
          rotate_left
          · intro w hSw; (try dsimp only at hSw); go_simp; try (with_reducible rfl)
          try simp only [Act.put, List.setIfInBounds_toArray, List.set_cons_zero, List.set_cons_succ]
          refine GoE.take (i := 11) (v := ?_) rfl (by decide) (by kernel_rfl) (by kernel_rfl) (by kernel_rfl) (by kernel_rfl) (fun _ _ _ h => h) (by rfl) ?_ (by assumption) ?_
          rotate_left
          · intro w hSw; (try dsimp only at hSw); go_simp; try (with_reducible rfl)
          try simp only [Act.put, List.setIfInBounds_toArray, List.set_cons_zero, List.set_cons_succ]
          have c0 := S0.1
          clear S0
          refine GoE.one (i := 12) rfl (by kernel_rfl) (fun K hK => ?_)
          go_simp
          refine hK.out _ _ (fun h => absurd rfl h) ?_
          clear hK K
          try simp only [Act.put, List.setIfInBounds_toArray, List.set_cons_zero, List.set_cons_succ]
          refine GoE.done (by kernel_rfl) ?_
          go_wp2_with fail
          go_roundw
          case rel =>
            refine ⟨k + 1, bs.set q (byteOf (x + y)), by omega, by go_num, by rw [List.length_set]; exact Hbl.out, ?_⟩
            have := Hset.out (.int .u8 (((x : Int) + (y : Int)) % 256))
            rw [turnByte, show (bvs bs).set q (bv (byteOf (x + y))) = bvs (bs.set q (byteOf (x + y))) from by unfold bvs; rw [List.map_set]] at this
            rw [turnByte]
            exact this
          case measure => simp [intOf]; omega
      · have Hgo := hid hgo
        have Hbl := hid hbl
        have H2 := hid hs
        clear hs hbl hgo
        by_cases j1 : k < an
        · have j1z : (k : Int) < an := by omega
          by_cases j2 : k < yn
          · have j2z : (k : Int) < yn := by omega
            have j3z : ¬ (k : Int) < 6 := by have := Hgo.out; omega
            have j3n : ¬ k < 6 := by have := Hgo.out; omega
            go_wp2_with fail
            go_meet
            exact ⟨bs, Hbl.out, H2.out⟩
          · have j2z : ¬ (k : Int) < yn := by omega
            go_wp2_with fail
            go_meet
            exact ⟨bs, Hbl.out, H2.out⟩
        · have j1z : ¬ (k : Int) < an := by omega
          go_wp2_with fail
          go_meet
          exact ⟨bs, Hbl.out, H2.out⟩
  case rest =>
    clear h4
    obtain ⟨bs, hbl, hs⟩ := hcut
    obtain ⟨wq, hwq⟩ : ∃ wq, wq = wc := ⟨_, rfl⟩
    rw [← hwq] at hs ⊢
    clear hwq
    have Hbl := hid hbl
    have Hs := hid hs
    clear hbl hs
    have hsz := Hsz.out
    go_upto_if 68 with fail
    go_cut [11] from 68 to 77 (fun v wx => ∃ m : Nat, m ≤ n ∧ v = .slice (some ⟨wb, wo, none⟩) m wk ∧ wx = wq)
    case first =>
      by_cases h0 : 0 < cut
      · have t0 : decide (0 < cut) = true := by simp; exact h0
        rw [t0]
        obtain ⟨q, hq⟩ : ∃ q : Nat, cut.tmod n = q := by
          refine ⟨(cut.tmod n).toNat, ?_⟩
          have := Int.tmod_nonneg (n : Int) (Int.le_of_lt h0)
          omega
        have hqn : (q : Int) < n := by rw [← hq]; exact Int.tmod_lt_of_pos _ (by omega)
        obtain ⟨m, hm⟩ : ∃ m, m = n - q := ⟨_, rfl⟩
        have w1 : (n : Int) - (q : Int) = (m : Int) := by omega
        have w2 : IntKind.i64.wrap ((n : Int) - (q : Int)) = (m : Int) := by rw [IntWalk.i64_in _ (by omega)]; omega
        have hn0 : ((n : Int) == 0) = false := by simp; omega
        have hn1 : ¬ (n : Int) = 0 := by omega
        have hn2 : ¬ n = 0 := by omega
        have hmw : m ≤ wk := by omega
        have hmz : (m : Int) ≤ wk := by omega
        have hmn : m ≤ n := by omega
        clear hm
        go_wp2_with fail
        go_meet
        exact ⟨m, hmn, rfl, rfl⟩
      · have t0 : decide (0 < cut) = false := by simp; omega
        rw [t0]
        go_wp2_with fail
        go_meet
        exact ⟨n, Nat.le_refl _, rfl, rfl⟩
    case rest =>
    obtain ⟨m, hmn, rfl, hwe⟩ := hcut
    rw [hwe]
    clear hwe
    have hml : (bs.take m).length = m := by rw [List.length_take, Hbl.out]; omega
    have kC1 := calls_ok (v := .slice (some ⟨wb, wo, none⟩) m wk) (b := bs.take m) Hs.out (fun w' h' => RdV.pre (RdB.v (SlB.rd h')) (by rw [Hbl.out]; exact hmn)) HH.out.nx
    have Hml := hid hml
    have hm9 : m ≤ 1000000000 := by omega
    have hbb : (m + mn) * 1 ≤ 140737488355328 := by have := Hmn3.out; omega
    have h63 : m + mn ≤ maxLen := by unfold maxLen; have := Hmn3.out; omega
    clear hml Hs
    go_wp2_with (first
      | (go_at_call 10; (with_reducible refine kC1.mono ?_); rintro ev w11 ⟨q, rfl, rfl, h11⟩; have hrv := RdV.pre (m := m) (RdB.v (SlB.rd h11)) (by rw [Hbl.out]; exact hmn); have H11 := hid h11; clear kC1 h11)
      | (at_builtin; refine wpList_newcopyG (w := w11) (nb := w11.heap.size) rfl (by rfl) (.tmp 81) (.tmp 82) rfl rfl rfl H11.out Hml.out hrv hm9 ?_; intro a4 c4 w12 _ h12; have hK := Sl.toK (n := m) h12 (by rw [bvs_len]; exact Hml.out); have hx := SrcOk.ofRdV (HM.out w12 h12.tail.tail); rw [Hmn.out] at hx; clear h12 hrv)
      | (at_builtin; refine wpList_append_slG (by rfl) (.tmp 83) (.tmp 84) rfl elem_byte rfl hK rfl hx (bvs_one _) hbb h63 ?_; intro v13 w13 h13 _; have h14 := Sl.ofK h13; rw [← bvs_append] at h14; obtain ⟨na, nc, rfl, _, _⟩ := Sl.valn h14 (m := m + mn) (by rw [bvs_len, List.length_append, Hml.out, Hmn.out]); have kC2 := calls_ok h14 (fun w' h' => RdB.v (SlB.rd h')) HH.out.nx.nx; clear hK hx h13 h14)
      | (go_at_call 10; (with_reducible refine kC2.mono ?_); rintro ev w15 ⟨q, rfl, rfl, h15⟩))
    go_ret
    exact Ret.mk ⟨rfl, h15.tail.tail⟩
end
end Go.Proofs.YtpecmkkcepnpeaaDoor
