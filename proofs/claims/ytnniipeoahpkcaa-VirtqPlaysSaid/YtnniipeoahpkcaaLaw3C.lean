/- do of chapter 3's statements: one call of both sides. No condition beside the sizes that each names. -/
import Derived.Test.YtnniipeoahpkcaaLaw3B
namespace Go.Proofs.Ytnniipeoahpkcaa
set_option linter.unusedVariables false
set_option linter.unusedSimpArgs false
open Go.RowKit
theorem SrcOk.ofBRow {w : World} {a : Option Addr} {c : Nat} {l : List Bf} (h : BRow a l w) (hc : l.length = 0 → a = none → c = 0) : SrcOk Try.prog 37 3 w (.slice a l.length c) l.length (bufV l) := by
  refine ⟨bufV_len l, ?_⟩
  by_cases h0 : 0 < l.length
  · obtain ⟨b, o, rfl, hx⟩ := h.2 h0
    refine .inr (.inl ⟨_, _, rfl, ⟨_, Try.underlying37⟩, fun j y hy => ?_⟩)
    have hj : j < l.length * 3 := by have := (List.getElem?_eq_some_iff.1 hy).1; rwa [bufV_len] at this
    have hq : j / 3 < l.length := by omega
    have hg : l[j / 3]? = some l[j / 3] := List.getElem?_eq_getElem hq
    obtain ⟨g0, g1, g2⟩ := bufV_get hg
    obtain ⟨c0, c1, c2⟩ := hx _ _ hg
    rw [addr_add]
    have hr : j % 3 = 0 ∨ j % 3 = 1 ∨ j % 3 = 2 := by omega
    rcases hr with hr | hr | hr
    · rw [show j / 3 * 3 = j by omega] at g0 c0
      rw [hy] at g0; cases g0; exact c0
    · rw [show j / 3 * 3 + 1 = j by omega] at g1
      rw [Nat.add_assoc, show j / 3 * 3 + 1 = j by omega] at c1
      rw [hy] at g1; cases g1; exact c1
    · rw [show j / 3 * 3 + 2 = j by omega] at g2
      rw [Nat.add_assoc, show j / 3 * 3 + 2 = j by omega] at c2
      rw [hy] at g2; cases g2; exact c2
  · have h1 : l.length = 0 := by omega
    have h2 : l = [] := List.length_eq_zero_iff.1 h1
    cases a with
    | none => rw [hc h1 rfl, h1]; exact .inl ⟨rfl, rfl, _, Try.underlying37⟩
    | some a => rw [h2]; exact .inr (.inl ⟨_, _, rfl, ⟨_, Try.underlying37⟩, fun j y hy => by simp [bufV] at hy⟩)
theorem bufV_one (l : List Bf) : ∀ y ∈ bufV l, y.oneCell' = true := by
  intro y hy
  obtain ⟨b, _, hb⟩ := List.mem_flatMap.1 hy
  simp [bfC] at hb
  rcases hb with rfl | rfl | rfl <;> rfl
/-- how a call leaves both sides -/
def DoPost (bb Z : Nat) (T : List Nat) (L : List HP) (v : Value) (w' : World) : Prop :=
  v = .bool true ∧ ∃ d' r' m' T', PI Z d' r' m' ∧ (T'.length ≤ T.length + 1 ∧ ∀ x ∈ T', x < 65536) ∧ SatL w' (BothR bb Z d' r' m' T' :: L)
section
variable {w : World} {L : List HP} {bb Z : Nat} {d : Dr} {r : Ring} {m : List UInt8} {T : List Nat} {l : List Bf} {la : Option Addr} {lc : Nat} {N M : Int}
set_option maxRecDepth 100000 in
set_option maxHeartbeats 4000000 in
theorem do_add (pi : PI Z d r m) (hT : T.length ≤ 200 ∧ ∀ x ∈ T, x < 65536) (hl : l.length ≤ 300) (hla : l.length = 0 → la = none → lc = 0) (hB : ∀ x ∈ l, x.addr ≤ 9223372036854775807) (g : Gives L (BRow la l)) (h : SatL w (BothR bb Z d r m T :: L)) :
    Calls Try.prog 19 #[.pointer (some ⟨bb, 0, none⟩), .agg #[.int .i64 1, .int .i64 N, .int .i64 M, .slice la l.length lc]] w (Ret fun v w' => DoPost bb Z T L v w') := by
  obtain ⟨db, vb, xb, yb, mb, nb, tv, h0⟩ := sat_BothR.1 h
  clear h
  have h1 := h0.alloc (.cells #[.int .i64 1, .int .i64 N, .int .i64 M, .slice la l.length lc] 51)
  have h1b : SatL (w.alloc (.cells #[.int .i64 1, .int .i64 N, .int .i64 M, .slice la l.length lc] 51)) (cl w.heap.size 51 #[.int .i64 1, .int .i64 N, .int .i64 M, .slice la l.length lc] :: _) := h1
  have hcl := hid (fun (w' : World) (X : List HP) (h : SatL w' (cl w.heap.size 51 #[.int .i64 1, .int .i64 N, .int .i64 M, .slice la l.length lc] :: X)) => h.cell (i := 3) (v := .slice la l.length lc) rfl)
  have hbc := hid (fun (w' : World) (X : List HP) (h : SatL w' (cl bb 57 (bothV db vb xb yb (smV mb Z) (smV nb Z) tv).toArray :: X)) => both_cells h)
  have c0 := SatL.cell h1b (i := 0) (v := .int .i64 1) rfl
  have c3 := hcl.out _ _ h1b
  have hK : SatL ((w.alloc (.cells #[.int .i64 1, .int .i64 N, .int .i64 M, .slice la l.length lc] 51)).alloc (.cells #[] 36)) (SlK 36 3 (.slice (some ⟨w.heap.size + 1, 0, none⟩) 0 0) 0 [] :: _) :=
    sat_SlK.2 (.inr ⟨w.heap.size + 1, 0, 0, #[], ⟨rfl, Nat.le_refl _, by decide, rfl, by simp, rfl⟩, h1b.allocN _ (by simp)⟩)
  have c3b := hcl.out _ _ hK.tail
  have hsrc := SrcOk.ofBRow (g _ hK.tail.tail.tail.tail.tail.tail.tail.tail.tail.tail) hla
  have b1 : (0 + l.length) * 24 ≤ 140737488355328 := by omega
  have b2 : 0 + l.length ≤ maxLen := by unfold maxLen; omega
  have hone := hid (bufV_one l)
  have hmz : m.length ≤ 1000000 := by have := pi.ml; have := pi.zl; omega
  have ka := hid (fun (w' : World) (X : List HP) (va : Option Addr) (vc : Nat) (h : SatL w' (DrvR db mb 0 d :: SlB 5 (smV mb Z) m :: X)) (g : Gives X (BRow va l)) => add_ok (cc := vc) pi.dk hmz h hB g)
  have kx := hid (fun (w' : World) (X : List HP) (h : SatL w' (XDrvR xb nb 0 Z Z d :: SlB 5 (smV nb Z) m :: X)) (g : Gives X (BRow la l)) => refadd_ok (cc := lc) pi.dk pi.ow hmz h hB g)
  have Hpi := hid (show PI Z (d.add m l).d r (d.add m l).m from by
    obtain ⟨k1, k2⟩ := add_keeps (l := l) pi.dk
    exact ⟨by rw [k2]; exact k1, by rw [k2]; exact pi.rk, pi.ow.add pi.dk, by rw [k2]; exact pi.ml, pi.zl⟩)
  have hsb := hid (fun (w' : World) (X : List HP) (va : Option Addr) (vc : Nat) (h : SatL w' X) (g1 : Gives X (BRow va l)) (g2 : Gives X (BRow la l)) => samebufs_ok (c := vc) (d := lc) h g1 g2)
  have hlz : (l.length : Int) ≤ 300 := by omega
  generalize d.add m l = res at *
  clear h0 h1 h1b hla hB pi hmz
  go_enter Try.func19, Try.ntmps19
  go_upto_region 5 with (first
    | (at_builtin; refine wpList_append_sl rfl (.tmp 27) (.tmp 29) rfl elem_buf rfl hK rfl hsrc hone.out b1 b2 ?_; intro v9 w9 h9 _; rw [Nat.zero_add, List.nil_append] at h9; obtain ⟨va, vc, rfl, r1, r2⟩ := SlK.valn h9; obtain ⟨d0, d1, d2, d3, d4, d5, d6⟩ := hbc.out _ _ (h9.pull 2); have qa := ka.out _ _ va vc (h9.bring [3, 5, 0, 1, 2, 4, 6, 7, 8, 9]) (fun _ h => BufR.brow h))
    | (go_at_call 12; (with_reducible refine qa.mono ?_); rintro e w3 ⟨v, rfl, rfl, h3⟩))
  have hs3 := sat_drew.2 h3
  have hq := kx.out _ _ (hs3.bring [6, 8, 2, 3, 4, 0, 5, 1, 7, 9]) g.nx.nx.nx.nx.nx.nx.nx.nx
  have S3 : w3.drew.cell? ⟨bb, 2, none⟩ = some (.pointer (some ⟨xb, 0, none⟩)) ∧ w3.drew.cell? ⟨w.heap.size, 3, none⟩ = some (.slice la l.length lc) := ⟨(hbc.out _ _ (hs3.pull 4)).2.2.1, hcl.out _ _ (hs3.pull 3)⟩
  clear hs3 h9 hK d0 d1 d2 d3 d4 d5 d6 c0 c3 c3b qa ka hsrc h3
  refine GoE.start (fun w' => w'.cell? ⟨bb, 2, none⟩ = some (.pointer (some ⟨xb, 0, none⟩)) ∧ w'.cell? ⟨w.heap.size, 3, none⟩ = some (.slice la l.length lc)) 11 12 rfl (by kernel_rfl) ?_
  refine GoE.take (i := 0) (v := ?_) rfl (by decide) (by kernel_rfl) (by kernel_rfl) (by kernel_rfl) (by kernel_rfl) (fun _ _ _ h => h) (by rfl) ?_ (by assumption) ?_
  rotate_left
  · intro w hSw; (try dsimp only at hSw); go_simp; try (with_reducible rfl)
  try simp only [Act.put, List.setIfInBounds_toArray, List.set_cons_zero, List.set_cons_succ]
  refine GoE.take (i := 1) (v := ?_) rfl (by decide) (by kernel_rfl) (by kernel_rfl) (by kernel_rfl) (by kernel_rfl) (fun _ _ _ h => h) (by rfl) ?_ (by assumption) ?_
  rotate_left
  · intro w hSw; (try dsimp only at hSw); go_simp; try (with_reducible rfl)
  try simp only [Act.put, List.setIfInBounds_toArray, List.set_cons_zero, List.set_cons_succ]
  refine GoE.take (i := 2) (v := ?_) rfl (by decide) (by kernel_rfl) (by kernel_rfl) (by kernel_rfl) (by kernel_rfl) (fun _ _ _ h => h) (by rfl) ?_ (by assumption) ?_
  rotate_left
  · intro w hSw; (try dsimp only at hSw); go_simp; try (with_reducible rfl)
  try simp only [Act.put, List.setIfInBounds_toArray, List.set_cons_zero, List.set_cons_succ]
  refine GoE.take (i := 3) (v := ?_) rfl (by decide) (by kernel_rfl) (by kernel_rfl) (by kernel_rfl) (by kernel_rfl) (fun _ _ _ h => h) (by rfl) ?_ (by assumption) ?_
  rotate_left
  · intro w hSw; (try dsimp only at hSw); go_simp; try (with_reducible rfl)
  try simp only [Act.put, List.setIfInBounds_toArray, List.set_cons_zero, List.set_cons_succ]
  refine GoE.take (i := 4) (v := ?_) rfl (by decide) (by kernel_rfl) (by kernel_rfl) (by kernel_rfl) (by kernel_rfl) (fun _ _ _ h => h) (by rfl) ?_ (by assumption) ?_
  rotate_left
  · intro w hSw; (try dsimp only at hSw); go_simp; try (with_reducible rfl)
  try simp only [Act.put, List.setIfInBounds_toArray, List.set_cons_zero, List.set_cons_succ]
  refine GoE.take (i := 5) (v := ?_) rfl (by decide) (by kernel_rfl) (by kernel_rfl) (by kernel_rfl) (by kernel_rfl) (fun _ _ _ h => h) (by rfl) ?_ (by assumption) ?_
  rotate_left
  · intro w hSw; (try dsimp only at hSw); go_simp; try (with_reducible rfl)
  try simp only [Act.put, List.setIfInBounds_toArray, List.set_cons_zero, List.set_cons_succ]
  refine GoE.one (i := 6) rfl (by kernel_rfl) (fun K hK => ?_)
  go_simp
  go_at_call 32
  (with_reducible refine (hq).mono ?_)
  rintro e w5 ⟨v, rfl, rfl, h5⟩; have S5 := And.intro (hbc.out _ _ (h5.pull 4)).2.2.1 (hcl.out _ _ (h5.pull 3))
  go_wp2_with fail
  refine hK.out _ _ (fun _ => S5) ?_
  clear hK K
  try simp only [Act.put, List.setIfInBounds_toArray, List.set_cons_zero, List.set_cons_succ]
  refine GoE.take (i := 7) (v := ?_) rfl (by decide) (by kernel_rfl) (by kernel_rfl) (by kernel_rfl) (by kernel_rfl) (fun _ _ _ h => h) (by rfl) ?_ (by assumption) ?_
  rotate_left
  · intro w hSw; (try dsimp only at hSw); go_simp; try (with_reducible rfl)
  try simp only [Act.put, List.setIfInBounds_toArray, List.set_cons_zero, List.set_cons_succ]
  refine GoE.take (i := 8) (v := ?_) rfl (by decide) (by kernel_rfl) (by kernel_rfl) (by kernel_rfl) (by kernel_rfl) (fun _ _ _ h => h) (by rfl) ?_ (by assumption) ?_
  rotate_left
  · intro w hSw; (try dsimp only at hSw); go_simp; try (with_reducible rfl)
  try simp only [Act.put, List.setIfInBounds_toArray, List.set_cons_zero, List.set_cons_succ]
  refine GoE.take (i := 9) (v := ?_) rfl (by decide) (by kernel_rfl) (by kernel_rfl) (by kernel_rfl) (by kernel_rfl) (fun _ _ _ h => h) (by rfl) ?_ (by assumption) ?_
  rotate_left
  · intro w hSw; (try dsimp only at hSw); go_simp; try (with_reducible rfl)
  try simp only [Act.put, List.setIfInBounds_toArray, List.set_cons_zero, List.set_cons_succ]
  refine GoE.take (i := 10) (v := ?_) rfl (by decide) (by kernel_rfl) (by kernel_rfl) (by kernel_rfl) (by kernel_rfl) (fun _ _ _ h => h) (by rfl) ?_ (by assumption) ?_
  rotate_left
  · intro w hSw; (try dsimp only at hSw); go_simp; try (with_reducible rfl)
  try simp only [Act.put, List.setIfInBounds_toArray, List.set_cons_zero, List.set_cons_succ]
  refine GoE.one (i := 11) rfl (by kernel_rfl) (fun K hK => ?_)
  go_simp
  refine hK.out _ _ (fun h => absurd rfl h) ?_
  clear hK K
  try simp only [Act.put, List.setIfInBounds_toArray, List.set_cons_zero, List.set_cons_succ]
  refine GoE.done (by kernel_rfl) ?_
  have kb := hsb.out _ _ va vc h5 (Gives.nx (Gives.nx (fun _ h => BufR.brow h))) g.nx.nx.nx.nx.nx.nx.nx.nx.nx.nx
  have c5 := hcl.out _ _ (h5.pull 3)
  clear S3 S5 hq h5
  go_wp2_with (first | (go_at_call 33; (with_reducible refine kb.mono ?_); rintro e w6 ⟨v, rfl, rfl, h6⟩))
  go_ret
  refine Ret.mk ⟨rfl, res.d, r, res.m, T, Hpi.out, ⟨by omega, hT.2⟩, sat_BothR.2 ⟨db, vb, xb, yb, mb, nb, tv, ?_⟩⟩
  exact SatL.tail (SatL.tail (h6.bring [2, 3, 4, 5, 6, 7, 0, 8, 1, 9]))
end
end Go.Proofs.Ytnniipeoahpkcaa
