/- the document's Reader: fail, number, U32, Left. No condition beside the sizes. -/
import Derived.Test.YtpecmkkcepnpeaaDoorRpcV
namespace Go.Proofs.YtpecmkkcepnpeaaDoor
set_option linter.unusedVariables false
set_option linter.unusedSimpArgs false
open Go.RowKit
/-- a reader of the document over bytes that lie elsewhere -/
def RrR (rb : Nat) (v : Value) (r : Rdr) : HP := sep [pur (ROk r), cl rb 114 #[v, .int .i64 (r.p : Int), .int .i64 r.err]]
section
variable {w : World} {L : List HP} {rb : Nat} {v : Value} {r : Rdr}
theorem sat_RrR : SatL w (RrR rb v r :: L) ↔ ROk r ∧ SatL w (cl rb 114 #[v, .int .i64 (r.p : Int), .int .i64 r.err] :: L) := by
  simp only [RrR, sat_sep, List.cons_append, List.nil_append, sat_pur]
/-- s[i:j] of what came in, as a run fact -/
theorem RdV.mid {v : Value} {b : List UInt8} {i j : Nat} (h : RdV v b w) (hij : i ≤ j) (hj : j ≤ b.length) : ∃ v', (∀ w', (Instr.sliceAt 27 v (some (.int .i64 (i : Int))) (some (.int .i64 (j : Int))) none).run Tryd.prog w' = .ok v' w') ∧ ∀ w', RdV v b w' → RdV v' ((b.take j).drop i) w' := by
  rcases Nat.eq_zero_or_pos b.length with h0 | h0
  · obtain rfl : b = [] := List.eq_nil_of_length_eq_zero h0
    obtain rfl : j = 0 := by simpa using hj
    obtain rfl : i = 0 := by simpa using hij
    have hu : Tryd.prog.underlying 27 = some (.slice (Tryd.prog.elem 27)) := by kernel_rfl
    rcases h with ⟨rfl, _⟩ | ⟨A, c, rfl, h1, h2, h3⟩
    · refine ⟨.slice none 0 0, fun w' => ?_, fun w' _ => .inl ⟨rfl, rfl⟩⟩
      have hz : (sizeOf (Tryd.prog.elem 27)).run Tryd.prog w' = .ok 1 w' := by kernel_rfl
      rw [run_sliceAt_slice _ _ _ _ _ _ hu, run_slice_lh _ _ _ _ _ hu .i64 .i64 ((0 : Nat) : Int) ((0 : Nat) : Int) (by omega) (by omega) (by omega), hz]
      rfl
    · refine ⟨.slice (if c = 0 then some A else some (A.add (0 * 1))) 0 c, fun w' => ?_, fun w' _ => .inr ?_⟩
      · have hz : (sizeOf (Tryd.prog.elem 27)).run Tryd.prog w' = .ok 1 w' := by kernel_rfl
        rw [run_sliceAt_slice _ _ _ _ _ _ hu, run_slice_lh _ _ _ _ _ hu .i64 .i64 ((0 : Nat) : Int) ((0 : Nat) : Int) (by omega) (by omega) (by omega), hz]
        simp only [Result.andThen, sliced, Int.toNat_natCast, Option.map_some, Nat.sub_zero, Nat.sub_self]
      · split
        · exact ⟨A, c, rfl, Nat.zero_le _, h2, fun h => absurd h (by simp)⟩
        · exact ⟨A.add (0 * 1), c, rfl, Nat.zero_le _, h2, fun h => absurd h (by simp)⟩
  · obtain ⟨a, c, rfl, g1, g2⟩ := h.valn
    obtain ⟨_, _, _, bb, off, rfl, _⟩ := (h.b h0).at h0
    exact ⟨_, fun w' => run_sub hij (by omega) w', fun w' h' => RdB.v (RdB.sub_if (h'.b h0) hij hj)⟩
theorem RdV.alloc {v : Value} {l : List UInt8} (h : RdV v l w) (o : Obj) : RdV v l (w.alloc o) := by
  rcases h with h | ⟨A, c, h0, h1, h2, h3⟩
  · exact .inl h
  · refine .inr ⟨A, c, h0, h1, h2, fun h4 => ?_⟩
    obtain ⟨b, off, e, h5⟩ := h3 h4
    exact ⟨b, off, e, fun i hi => Lib.cell?_alloc_marked _ (h5 i hi)⟩
theorem Gives.nx {X : HP} {F : World → Prop} (g : Gives L F) : Gives (X :: L) F := fun w h => g w (SatL.tail h)
theorem Sl_new0 {nb : Nat} (hnb : nb = w.heap.size) (h : SatL w L) : SatL (w.alloc (.cells #[] 5)) (SlK 5 1 (.slice (some ⟨nb, 0, none⟩) 0 0) 0 [] :: L) := by
  subst hnb
  exact sat_SlK.2 (.inr ⟨w.heap.size, 0, 0, #[], ⟨rfl, Nat.le_refl _, by decide, rfl, by simp, rfl⟩, h.alloc _⟩)
/-- append([]byte{}, x...) -/
theorem wpList_newcopy {ops : Array Oper} {rest : List Oper} {o : Oper} {a : Act} {Q : Exit → Act → World → Prop} {nb : Nat} (hnb : nb = w.heap.size) (hgd : o.guard = none) (s x : Operand)
    (ho : o.op = .call { callee := .builtin .append, args := #[s, x], argTypes := #[27, 27] }) (hs : a.eval s = .slice (some ⟨nb, 0, none⟩) 0 0) {v : Value} (hy : a.eval x = v)
    (h : SatL w L) {l : List UInt8} {n : Nat} (hln : l.length = n) (g : RdV v l w) (hl : n ≤ 1000000000) (K : ∀ a' c' w', n ≤ c' → SatL w' (SlB 5 (.slice a' n c') l :: L) → wpList Tryd.prog ops Q rest (a.put o.dst (.slice a' n c')) w') :
    wpList Tryd.prog ops Q (o :: rest) a (w.alloc (.cells #[] 5)) := by
  subst hnb; subst hln
  refine wpList_append_sl hgd s x ho elem_byte hs (Sl_new0 rfl h) hy (SrcOk.ofRdV (RdV.alloc g _)) (bvs_one l) (by omega) (by unfold maxLen; omega) ?_
  intro v' w' h8 _
  have h9 : SatL w' (SlB 5 v' l :: L) := by simpa using Sl.ofK h8
  obtain ⟨a, c, rfl, h1, _⟩ := SlB.valn h9
  exact K a c w' h1 h9
theorem step_newcopy {ops : Array Oper} {o : Oper} {a : Act} {K : Act → World → Prop} {Q : Exit → Act → World → Prop} {X : Prop} {nb : Nat} (hnb : nb = w.heap.size) (hgd : o.guard = none) (s x : Operand)
    (ho : o.op = .call { callee := .builtin .append, args := #[s, x], argTypes := #[27, 27] }) (hs : a.eval s = .slice (some ⟨nb, 0, none⟩) 0 0) {v : Value} (hy : a.eval x = v)
    (h : SatL w L) {l : List UInt8} {n : Nat} (hln : l.length = n) (g : RdV v l w) (hl : n ≤ 1000000000) (H : ∀ a' c' w', n ≤ c' → SatL w' (SlB 5 (.slice a' n c') l :: L) → K (a.put o.dst (.slice a' n c')) w') :
    if Region.wanted o (yielded ops a.tmps) = true then Oper.wp Tryd.prog o a (w.alloc (.cells #[] 5)) K Q else X := by
  subst hnb; subst hln
  refine step_append_sl hgd s x ho elem_byte hs (Sl_new0 rfl h) hy (SrcOk.ofRdV (RdV.alloc g _)) (bvs_one l) (by omega) (by unfold maxLen; omega) ?_
  intro v' w' h8 _
  have h9 : SatL w' (SlB 5 v' l :: L) := by simpa using Sl.ofK h8
  obtain ⟨a, c, rfl, h1, _⟩ := SlB.valn h9
  exact H a c w' h1 h9
theorem refbe_no {a : Option Addr} {n c at_ k : Nat} (hk : sizeOk k) (hat : n < at_ + k) (hn : n ≤ 9223372036854775807) (ha : at_ ≤ n) (w : World) :
    Calls Tryd.prog 39 #[.slice a n c, .int .i64 at_, .int .i64 k] w fun e w' => e = .returned (.tuple #[.int .u64 0, .int .i64 11]) ∧ w = w' := by
  have hs := refsize_yes k hk w
  have hkb : 1 ≤ k ∧ k ≤ 8 := by rcases hk with rfl | rfl | rfl | rfl <;> omega
  have q1 : ¬ ((at_ : Int) > n) := by omega
  have q2 : (n : Int) - at_ < k := by omega
  clear hk
  go_enter Tryd.func39, Tryd.ntmps39
  go_wp2_with (go_at_call 71; (with_reducible refine hs.mono ?_); rintro e w' ⟨rfl, rfl⟩)
  go_ret2
  exact ⟨rfl, rfl⟩
theorem reffail_ok {p : Nat} {e : Int} (hp : p ≤ r.b.length) (h : SatL w (RrR rb v r :: L)) :
    Calls Tryd.prog 78 #[.pointer (some ⟨rb, 0, none⟩), .int .i64 (p : Int), .int .i64 e] w (Ret fun v' w' => SatL w' (RrR rb v { r with p := p, err := e } :: L)) := by
  obtain ⟨ok, h0⟩ := sat_RrR.1 h
  have c2 := SatL.cell (h0 : SatL w (cl _ _ _ :: _)) (i := 2) (v := .int .i64 r.err) rfl
  have c1 := SatL.cell (h0 : SatL w (cl _ _ _ :: _)) (i := 1) (v := .int .i64 (r.p : Int)) rfl
  have f2 := SatL.free (h0 : SatL w (cl _ _ _ :: _)) 2
  have f1 := SatL.free (h0 : SatL w (cl _ _ _ :: _)) 1
  have hs := SatL.set (SatL.set (h0 : SatL w (cl _ _ _ :: _)) (i := 1) (.int .i64 (p : Int))) (i := 2) (.int .i64 e)
  have Hs := hid hs
  have Ok := hid ok
  have Hp := hid hp
  clear hs ok h0 h hp
  go_enter Tryd.func78, Tryd.ntmps78
  go_wp2
  go_end0
  exact Ret.mk (sat_RrR.2 ⟨⟨Hp.out, Ok.out.2⟩, Hs.out⟩)
theorem refnumber_ok {n : Nat} (hn : sizeOk n) (h : SatL w (RrR rb v r :: L)) (g : Gives L (RdV v r.b)) :
    Calls Tryd.prog 77 #[.pointer (some ⟨rb, 0, none⟩), .int .i64 n] w (Ret fun q w' => q = .int .u64 ((r.num n).1 : Int) ∧ SatL w' (RrR rb v (r.num n).2 :: L)) := by
  obtain ⟨ok, h0⟩ := sat_RrR.1 h
  have hnb : 1 ≤ n ∧ n ≤ 8 := by rcases hn with rfl | rfl | rfl | rfl <;> omega
  obtain ⟨B, p, E⟩ := r
  have hop : p ≤ B.length ∧ B.length ≤ 100000000 := ok
  dsimp only at *
  have c0 := SatL.cell (h0 : SatL w (cl _ _ _ :: _)) (i := 0) (v := v) rfl
  have c1 := SatL.cell (h0 : SatL w (cl _ _ _ :: _)) (i := 1) (v := .int .i64 (p : Int)) rfl
  have c2 := SatL.cell (h0 : SatL w (cl _ _ _ :: _)) (i := 2) (v := .int .i64 E) rfl
  have hrd : RdV v B w := g w (SatL.tail h0)
  obtain ⟨a, c, rfl, g1, g2⟩ := hrd.valn
  have hwr : IntKind.i64.wrap ((p : Int) + n) = ((p + n : Nat) : Int) := by rw [IntWalk.i64_in _ (by omega)]; omega
  by_cases hE : E = 0
  · subst hE
    by_cases hin : p + n ≤ B.length
    · have kb := refbe_in (w := w.drew) (at_ := p) hn hin (hrd.b (by omega))
      have e1 : Rdr.num ⟨B, p, 0⟩ n = (beN ((B.drop p).take n), ⟨B, p + n, 0⟩) := by unfold Rdr.num; rw [if_pos rfl, if_pos hin]
      rw [e1]
      have Ok2 := hid (show ROk ⟨B, p + n, 0⟩ from ⟨hin, hop.2⟩)
      rw [show leN ((B.drop p).take n).reverse = beN ((B.drop p).take n) from rfl] at kb
      generalize beN ((B.drop p).take n) = x at *
      have f1 := SatL.free (h0 : SatL w (cl _ _ _ :: _)) 1
      have hs := hid (SatL.set (h0 : SatL w (cl _ _ _ :: _)) (i := 1) (.int .i64 ((p + n : Nat) : Int)))
      clear e1 hin hrd ok h h0 g
      go_enter Tryd.func77, Tryd.ntmps77
      have S0 : w.drew.cell? ⟨rb, 0, none⟩ = some (.slice a B.length c) ∧ w.drew.cell? ⟨rb, 1, none⟩ = some (.int .i64 (p : Int)) := ⟨c0, c1⟩
      go_upto_region 3 with fail
      refine GoE.start (fun w' => w'.cell? ⟨rb, 0, none⟩ = some (.slice a B.length c) ∧ w'.cell? ⟨rb, 1, none⟩ = some (.int .i64 (p : Int))) 14 15 rfl (by kernel_rfl) ?_
      refine GoE.take (i := 0) (v := ?_) rfl (by decide) (by kernel_rfl) (by kernel_rfl) (by kernel_rfl) (by kernel_rfl) (fun _ _ _ h => h) (by rfl) ?_ (by assumption) ?_
      rotate_left
      · intro w hSw; (try dsimp only at hSw); go_simp; try (with_reducible rfl)
      try simp only [Act.put, List.setIfInBounds_toArray, List.set_cons_zero, List.set_cons_succ]
      refine GoE.take (i := 1) (v := ?_) rfl (by decide) (by kernel_rfl) (by kernel_rfl) (by kernel_rfl) (by kernel_rfl) (fun _ _ _ h => h) (by rfl) ?_ (by assumption) ?_
      rotate_left
      · intro w hSw; (try dsimp only at hSw); go_simp; try (with_reducible rfl)
      try simp only [Act.put, List.setIfInBounds_toArray, List.set_cons_zero, List.set_cons_succ]
      refine GoE.take (i := 2) (v := ?_) rfl (by decide) (by kernel_rfl) (by kernel_rfl) (by kernel_rfl) (by kernel_rfl) (fun _ _ _ h => h) (by rfl) ?_ (by assumption) ?_
      rotate_left
      · intro w hSw; (try dsimp only at hSw); go_simp; try (with_reducible rfl)
      try simp only [Act.put, List.setIfInBounds_toArray, List.set_cons_zero, List.set_cons_succ]
      refine GoE.take (i := 3) (v := ?_) rfl (by decide) (by kernel_rfl) (by kernel_rfl) (by kernel_rfl) (by kernel_rfl) (fun _ _ _ h => h) (by rfl) ?_ (by assumption) ?_
      rotate_left
      · intro w hSw; (try dsimp only at hSw); go_simp; try (with_reducible rfl)
      try simp only [Act.put, List.setIfInBounds_toArray, List.set_cons_zero, List.set_cons_succ]
      refine GoE.take (i := 4) (v := ?_) rfl (by decide) (by kernel_rfl) (by kernel_rfl) (by kernel_rfl) (by kernel_rfl) (fun _ _ _ h => h) (by rfl) ?_ (by assumption) ?_
      rotate_left
      · intro w hSw; (try dsimp only at hSw); go_simp; try (with_reducible rfl)
      try simp only [Act.put, List.setIfInBounds_toArray, List.set_cons_zero, List.set_cons_succ]
      refine GoE.take (i := 5) (v := ?_) rfl (by decide) (by kernel_rfl) (by kernel_rfl) (by kernel_rfl) (by kernel_rfl) (fun _ _ _ h => h) (by rfl) ?_ (by assumption) ?_
      rotate_left
      · intro w hSw; (try dsimp only at hSw); go_simp; try (with_reducible rfl)
      try simp only [Act.put, List.setIfInBounds_toArray, List.set_cons_zero, List.set_cons_succ]
      refine GoE.take (i := 6) (v := ?_) rfl (by decide) (by kernel_rfl) (by kernel_rfl) (by kernel_rfl) (by kernel_rfl) (fun _ _ _ h => h) (by rfl) ?_ (by assumption) ?_
      rotate_left
      · intro w hSw; (try dsimp only at hSw); go_simp; try (with_reducible rfl)
      try simp only [Act.put, List.setIfInBounds_toArray, List.set_cons_zero, List.set_cons_succ]
      refine GoE.take (i := 7) (v := ?_) rfl (by decide) (by kernel_rfl) (by kernel_rfl) (by kernel_rfl) (by kernel_rfl) (fun _ _ _ h => h) (by rfl) ?_ (by assumption) ?_
      rotate_left
      · intro w hSw; (try dsimp only at hSw); go_simp; try (with_reducible rfl)
      try simp only [Act.put, List.setIfInBounds_toArray, List.set_cons_zero, List.set_cons_succ]
      refine GoE.take (i := 8) (v := ?_) rfl (by decide) (by kernel_rfl) (by kernel_rfl) (by kernel_rfl) (by kernel_rfl) (fun _ _ _ h => h) (by rfl) ?_ (by assumption) ?_
      rotate_left
      · intro w hSw; (try dsimp only at hSw); go_simp; try (with_reducible rfl)
      try simp only [Act.put, List.setIfInBounds_toArray, List.set_cons_zero, List.set_cons_succ]
      refine GoE.one (i := 9) rfl (by kernel_rfl) (fun K hK => ?_)
      go_simp
      go_at_call 39
      (with_reducible refine (kb).mono ?_)
      rintro e w1 ⟨rfl, rfl⟩
      go_wp2_with fail
      refine hK.out _ _ (fun _ => S0) ?_
      clear hK K
      try simp only [Act.put, List.setIfInBounds_toArray, List.set_cons_zero, List.set_cons_succ]
      refine GoE.take (i := 10) (v := ?_) rfl (by decide) (by kernel_rfl) (by kernel_rfl) (by kernel_rfl) (by kernel_rfl) (fun _ _ _ h => h) (by rfl) ?_ (by assumption) ?_
      rotate_left
      · intro w hSw; (try dsimp only at hSw); go_simp; try (with_reducible rfl)
      try simp only [Act.put, List.setIfInBounds_toArray, List.set_cons_zero, List.set_cons_succ]
      refine GoE.take (i := 11) (v := ?_) rfl (by decide) (by kernel_rfl) (by kernel_rfl) (by kernel_rfl) (by kernel_rfl) (fun _ _ _ h => h) (by rfl) ?_ (by assumption) ?_
      rotate_left
      · intro w hSw; (try dsimp only at hSw); go_simp; try (with_reducible rfl)
      try simp only [Act.put, List.setIfInBounds_toArray, List.set_cons_zero, List.set_cons_succ]
      refine GoE.take (i := 12) (v := ?_) rfl (by decide) (by kernel_rfl) (by kernel_rfl) (by kernel_rfl) (by kernel_rfl) (fun _ _ _ h => h) (by rfl) ?_ (by assumption) ?_
      rotate_left
      · intro w hSw; (try dsimp only at hSw); go_simp; try (with_reducible rfl)
      try simp only [Act.put, List.setIfInBounds_toArray, List.set_cons_zero, List.set_cons_succ]
      refine GoE.take (i := 13) (v := ?_) rfl (by decide) (by kernel_rfl) (by kernel_rfl) (by kernel_rfl) (by kernel_rfl) (fun _ _ _ h => h) (by rfl) ?_ (by assumption) ?_
      rotate_left
      · intro w hSw; (try dsimp only at hSw); go_simp; try (with_reducible rfl)
      try simp only [Act.put, List.setIfInBounds_toArray, List.set_cons_zero, List.set_cons_succ]
      refine GoE.one (i := 14) rfl (by kernel_rfl) (fun K hK => ?_)
      go_simp
      refine hK.out _ _ (fun h => absurd rfl h) ?_
      clear hK K
      try simp only [Act.put, List.setIfInBounds_toArray, List.set_cons_zero, List.set_cons_succ]
      refine GoE.done (by kernel_rfl) ?_
      go_wp2_with fail
      go_ret
      exact Ret.mk ⟨rfl, sat_RrR.2 ⟨Ok2.out, hs.out⟩⟩
    · have kb := refbe_no (a := a) (n := B.length) (c := c) (at_ := p) hn (by omega) (by omega) hop.1 w.drew
      have e1 : Rdr.num ⟨B, p, 0⟩ n = (0, ⟨B, p, 11⟩) := by unfold Rdr.num; rw [if_pos rfl, if_neg hin]
      rw [e1]
      have f2 := SatL.free (h0 : SatL w (cl _ _ _ :: _)) 2
      have hs := hid (SatL.set (h0 : SatL w (cl _ _ _ :: _)) (i := 2) (.int .i64 11))
      clear e1 hin hrd h h0 g
      go_enter Tryd.func77, Tryd.ntmps77
      have S0 : w.drew.cell? ⟨rb, 0, none⟩ = some (.slice a B.length c) ∧ w.drew.cell? ⟨rb, 1, none⟩ = some (.int .i64 (p : Int)) := ⟨c0, c1⟩
      go_upto_region 3 with fail
      refine GoE.start (fun w' => w'.cell? ⟨rb, 0, none⟩ = some (.slice a B.length c) ∧ w'.cell? ⟨rb, 1, none⟩ = some (.int .i64 (p : Int))) 14 15 rfl (by kernel_rfl) ?_
      refine GoE.take (i := 0) (v := ?_) rfl (by decide) (by kernel_rfl) (by kernel_rfl) (by kernel_rfl) (by kernel_rfl) (fun _ _ _ h => h) (by rfl) ?_ (by assumption) ?_
      rotate_left
      · intro w hSw; (try dsimp only at hSw); go_simp; try (with_reducible rfl)
      try simp only [Act.put, List.setIfInBounds_toArray, List.set_cons_zero, List.set_cons_succ]
      refine GoE.take (i := 1) (v := ?_) rfl (by decide) (by kernel_rfl) (by kernel_rfl) (by kernel_rfl) (by kernel_rfl) (fun _ _ _ h => h) (by rfl) ?_ (by assumption) ?_
      rotate_left
      · intro w hSw; (try dsimp only at hSw); go_simp; try (with_reducible rfl)
      try simp only [Act.put, List.setIfInBounds_toArray, List.set_cons_zero, List.set_cons_succ]
      refine GoE.take (i := 2) (v := ?_) rfl (by decide) (by kernel_rfl) (by kernel_rfl) (by kernel_rfl) (by kernel_rfl) (fun _ _ _ h => h) (by rfl) ?_ (by assumption) ?_
      rotate_left
      · intro w hSw; (try dsimp only at hSw); go_simp; try (with_reducible rfl)
      try simp only [Act.put, List.setIfInBounds_toArray, List.set_cons_zero, List.set_cons_succ]
      refine GoE.take (i := 3) (v := ?_) rfl (by decide) (by kernel_rfl) (by kernel_rfl) (by kernel_rfl) (by kernel_rfl) (fun _ _ _ h => h) (by rfl) ?_ (by assumption) ?_
      rotate_left
      · intro w hSw; (try dsimp only at hSw); go_simp; try (with_reducible rfl)
      try simp only [Act.put, List.setIfInBounds_toArray, List.set_cons_zero, List.set_cons_succ]
      refine GoE.take (i := 4) (v := ?_) rfl (by decide) (by kernel_rfl) (by kernel_rfl) (by kernel_rfl) (by kernel_rfl) (fun _ _ _ h => h) (by rfl) ?_ (by assumption) ?_
      rotate_left
      · intro w hSw; (try dsimp only at hSw); go_simp; try (with_reducible rfl)
      try simp only [Act.put, List.setIfInBounds_toArray, List.set_cons_zero, List.set_cons_succ]
      refine GoE.take (i := 5) (v := ?_) rfl (by decide) (by kernel_rfl) (by kernel_rfl) (by kernel_rfl) (by kernel_rfl) (fun _ _ _ h => h) (by rfl) ?_ (by assumption) ?_
      rotate_left
      · intro w hSw; (try dsimp only at hSw); go_simp; try (with_reducible rfl)
      try simp only [Act.put, List.setIfInBounds_toArray, List.set_cons_zero, List.set_cons_succ]
      refine GoE.take (i := 6) (v := ?_) rfl (by decide) (by kernel_rfl) (by kernel_rfl) (by kernel_rfl) (by kernel_rfl) (fun _ _ _ h => h) (by rfl) ?_ (by assumption) ?_
      rotate_left
      · intro w hSw; (try dsimp only at hSw); go_simp; try (with_reducible rfl)
      try simp only [Act.put, List.setIfInBounds_toArray, List.set_cons_zero, List.set_cons_succ]
      refine GoE.take (i := 7) (v := ?_) rfl (by decide) (by kernel_rfl) (by kernel_rfl) (by kernel_rfl) (by kernel_rfl) (fun _ _ _ h => h) (by rfl) ?_ (by assumption) ?_
      rotate_left
      · intro w hSw; (try dsimp only at hSw); go_simp; try (with_reducible rfl)
      try simp only [Act.put, List.setIfInBounds_toArray, List.set_cons_zero, List.set_cons_succ]
      refine GoE.take (i := 8) (v := ?_) rfl (by decide) (by kernel_rfl) (by kernel_rfl) (by kernel_rfl) (by kernel_rfl) (fun _ _ _ h => h) (by rfl) ?_ (by assumption) ?_
      rotate_left
      · intro w hSw; (try dsimp only at hSw); go_simp; try (with_reducible rfl)
      try simp only [Act.put, List.setIfInBounds_toArray, List.set_cons_zero, List.set_cons_succ]
      refine GoE.one (i := 9) rfl (by kernel_rfl) (fun K hK => ?_)
      go_simp
      go_at_call 39
      (with_reducible refine (kb).mono ?_)
      rintro e w1 ⟨rfl, rfl⟩
      go_wp2_with fail
      refine hK.out _ _ (fun _ => S0) ?_
      clear hK K
      try simp only [Act.put, List.setIfInBounds_toArray, List.set_cons_zero, List.set_cons_succ]
      refine GoE.take (i := 10) (v := ?_) rfl (by decide) (by kernel_rfl) (by kernel_rfl) (by kernel_rfl) (by kernel_rfl) (fun _ _ _ h => h) (by rfl) ?_ (by assumption) ?_
      rotate_left
      · intro w hSw; (try dsimp only at hSw); go_simp; try (with_reducible rfl)
      try simp only [Act.put, List.setIfInBounds_toArray, List.set_cons_zero, List.set_cons_succ]
      refine GoE.take (i := 11) (v := ?_) rfl (by decide) (by kernel_rfl) (by kernel_rfl) (by kernel_rfl) (by kernel_rfl) (fun _ _ _ h => h) (by rfl) ?_ (by assumption) ?_
      rotate_left
      · intro w hSw; (try dsimp only at hSw); go_simp; try (with_reducible rfl)
      try simp only [Act.put, List.setIfInBounds_toArray, List.set_cons_zero, List.set_cons_succ]
      refine GoE.take (i := 12) (v := ?_) rfl (by decide) (by kernel_rfl) (by kernel_rfl) (by kernel_rfl) (by kernel_rfl) (fun _ _ _ h => h) (by rfl) ?_ (by assumption) ?_
      rotate_left
      · intro w hSw; (try dsimp only at hSw); go_simp; try (with_reducible rfl)
      try simp only [Act.put, List.setIfInBounds_toArray, List.set_cons_zero, List.set_cons_succ]
      refine GoE.take (i := 13) (v := ?_) rfl (by decide) (by kernel_rfl) (by kernel_rfl) (by kernel_rfl) (by kernel_rfl) (fun _ _ _ h => h) (by rfl) ?_ (by assumption) ?_
      rotate_left
      · intro w hSw; (try dsimp only at hSw); go_simp; try (with_reducible rfl)
      try simp only [Act.put, List.setIfInBounds_toArray, List.set_cons_zero, List.set_cons_succ]
      refine GoE.one (i := 14) rfl (by kernel_rfl) (fun K hK => ?_)
      go_simp
      refine hK.out _ _ (fun h => absurd rfl h) ?_
      clear hK K
      try simp only [Act.put, List.setIfInBounds_toArray, List.set_cons_zero, List.set_cons_succ]
      refine GoE.done (by kernel_rfl) ?_
      go_wp2_with fail
      go_ret
      exact Ret.mk ⟨rfl, sat_RrR.2 ⟨ok, hs.out⟩⟩
  · have e1 : Rdr.num ⟨B, p, E⟩ n = (0, ⟨B, p, E⟩) := by unfold Rdr.num; rw [if_neg hE]
    have h2 : (E == 0) = false := by simpa using hE
    rw [e1]
    clear e1 hrd g hE h0
    go_enter Tryd.func77, Tryd.ntmps77
    go_wp2
    go_ret
    exact Ret.mk ⟨rfl, h⟩
theorem refu32_ok (h : SatL w (RrR rb v r :: L)) (g : Gives L (RdV v r.b)) :
    Calls Tryd.prog 51 #[.pointer (some ⟨rb, 0, none⟩)] w (Ret fun q w' => q = .int .u32 ((r.num 4).1 : Int) ∧ SatL w' (RrR rb v (r.num 4).2 :: L)) := by
  have kn := refnumber_ok (n := 4) (.inr (.inr (.inl rfl))) h g
  have hlt := r.num_lt 4
  have hwr : IntKind.u32.wrap ((r.num 4).1 : Int) = ((r.num 4).1 : Int) := u32_in _ hlt
  rw [show ((4 : Nat) : Int) = 4 from rfl] at kn
  clear h g
  go_enter Tryd.func51, Tryd.ntmps51
  go_wp2_with (go_at_call 77; (with_reducible refine kn.mono ?_); rintro e w1 ⟨v, rfl, rfl, h1⟩)
  go_ret
  exact Ret.mk ⟨rfl, h1⟩
theorem refleft_ok (h : SatL w (RrR rb v r :: L)) (g : Gives L (RdV v r.b)) :
    Calls Tryd.prog 53 #[.pointer (some ⟨rb, 0, none⟩)] w (Ret fun q w' => q = .int .i64 ((r.b.length : Int) - r.p) ∧ SatL w' (RrR rb v r :: L)) := by
  obtain ⟨ok, h0⟩ := sat_RrR.1 h
  have c0 := SatL.cell (h0 : SatL w (cl _ _ _ :: _)) (i := 0) (v := v) rfl
  have c1 := SatL.cell (h0 : SatL w (cl _ _ _ :: _)) (i := 1) (v := .int .i64 (r.p : Int)) rfl
  obtain ⟨a, c, rfl, _, _⟩ := (g w (SatL.tail h0)).valn
  have H := hid h
  obtain ⟨B, p, E⟩ := r
  have hop : p ≤ B.length ∧ B.length ≤ 100000000 := ok
  dsimp only at *
  clear h h0 ok g
  go_enter Tryd.func53, Tryd.ntmps53
  go_wp2_with fail
  go_quiet (fail)
  go_wp2
  go_ret
  exact Ret.mk ⟨rfl, H.out⟩
end
end Go.Proofs.YtpecmkkcepnpeaaDoor
