/- Disks: Write. No condition beside the sizes that it names. -/
import Derived.Test.YtjjiljijcigekaaDiskR
import Derived.Test.YtjjiljijcigekaaChunk2
import Derived.Test.YtjjiljijcigekaaPushIn
import Derived.Test.YtjjiljijcigekaaRegIn
import Derived.Shelf.Abstract
namespace Go.Proofs.Ytjjiljijcigekaa
set_option linter.unusedVariables false
set_option linter.unusedSimpArgs false
open Go.RowKit
attribute [local go_sem] Oper.semAt_some
/-- k blocks are written, from p on -/
def Dsk.wr (s : Dsk) (p : Nat) (bs : List UInt8) (k : Nat) : Dsk := { s with V := fun i => if p ≤ i ∧ i < p + k then s.V i ++ [rowAt bs (i - p)] else s.V i }
theorem wr_zero (s : Dsk) (p : Nat) (bs : List UInt8) : s.wr p bs 0 = s := by
  unfold Dsk.wr
  have : (fun i => if p ≤ i ∧ i < p + 0 then s.V i ++ [rowAt bs (i - p)] else s.V i) = s.V := by
    funext i; rw [if_neg (by omega)]
  rw [this]
theorem wr_at (s : Dsk) (p : Nat) (bs : List UInt8) (k : Nat) : (s.wr p bs k).V (p + k) = s.V (p + k) := by
  show (if _ then _ else _) = _
  rw [if_neg (by omega)]
theorem wr_succ (s : Dsk) (p : Nat) (bs : List UInt8) (k : Nat) : (fun j => if j = p + k then (s.wr p bs k).V (p + k) ++ [rowAt bs k] else (s.wr p bs k).V j) = (s.wr p bs (k + 1)).V := by
  funext j
  by_cases hj : j = p + k
  · subst hj
    rw [if_pos rfl, wr_at]
    show _ = if _ then _ else _
    rw [if_pos (by omega), Nat.add_sub_cancel_left]
  · rw [if_neg hj]
    show (if _ then _ else _) = if _ then _ else _
    by_cases h : p ≤ j ∧ j < p + k
    · rw [if_pos h, if_pos (by omega)]
    · rw [if_neg h, if_neg (by omega)]
theorem vf_upd (V : Nat → List (List UInt8)) (i : Nat) (l : List (List UInt8)) (hl : l ≠ []) : upo (vf V) (i : Int) l = vf (fun j => if j = i then l else V j) := by
  funext k
  unfold upo vf
  by_cases hk : k = (i : Int)
  · subst hk
    rw [if_pos rfl, Int.toNat_natCast]
    simp [hl]
  · rw [if_neg hk]
    by_cases h0 : 0 ≤ k
    · have : ¬ k.toNat = i := by omega
      simp only [this, if_false]
    · rw [if_neg (fun h => h0 h.1), if_neg (fun h => h0 h.1)]
theorem RdB.chunk {w : World} {b off n c : Nat} {bs : List UInt8} (h : RdB (.slice (some ⟨b, off, none⟩) n c) bs w) {i : Nat} (hi : 512 * (i + 1) ≤ bs.length) : RdB (chunkV b off i) (rowAt bs i) w := by
  have hl : (rowAt bs i).length = 512 := by unfold rowAt; rw [List.length_take, List.length_drop]; omega
  rcases h with ⟨h, _⟩ | ⟨b', off', c', h0, h1, h2, h3⟩
  · cases h
  · cases h0
    refine .inr ⟨b, off + 512 * i, 512, by rw [hl], by omega, by omega, fun k hk => ?_⟩
    rw [hl] at hk
    rw [Nat.add_assoc, h3 (512 * i + k) (by omega)]
    congr 4
    unfold rowAt
    rw [List.getD_eq_getElem?_getD, List.getD_eq_getElem?_getD, List.getElem?_take, if_pos hk, List.getElem?_drop]
theorem elem_rows : ElemOk Try.prog 64 33 1 24 [Value.slice none 0 0] := .of (z := .slice none 0 0) (by kernel_rfl) (by kernel_rfl) rfl rfl (by decide) (by simp [Value.oneCell'])
/-- one element more, in a region that has drawn ahead -/
theorem step_push1_sl {P : Program} {w : World} {L : List HP} {T bytes : Nat} {v y : Value} {xs zs : List Value} {ops : Array Oper} {o : Oper} {a : Act} {K : Act → World → Prop} {Q : Exit → Act → World → Prop} {X : Prop} {nb : Nat} (hnb : nb = w.heap.size) (hgd : o.guard = none) (s x : Operand) {t : Nat}
    (ho : o.op = .call { callee := .builtin .append, args := #[s, x], argTypes := #[t, t] }) (E : ElemOk P t T 1 bytes zs) (hbp : 0 < bytes)
    (hs : a.eval s = v) (h : SatL w (Sl T v xs :: L)) (hy : a.eval x = .slice (some ⟨nb, 0, none⟩) 1 1)
    (h1 : y.oneCell' = true) (hb : (xs.length + 1) * bytes ≤ 140737488355328)
    (H : ∀ v' w', SatL w' (Sl T v' (xs ++ [y]) :: L) → K (a.put o.dst v') w') :
    if Region.wanted o (yielded ops a.tmps) = true then Oper.wp P o a (w.alloc (.cells #[y] T)) K Q else X := by
  subst hnb
  have al := h.alloc (.cells #[y] T)
  refine step_append_sl hgd s x ho E hs (Sl.toK al.swap rfl) hy (SrcOk.ofCl (n := 1) E.under al rfl 1) (by simpa using h1) hb ?_ ?_
  · unfold maxLen
    have : xs.length + 1 ≤ (xs.length + 1) * bytes := Nat.le_mul_of_pos_right _ hbp
    omega
  · intro v' w' h6 _
    exact H v' w' (Sl.ofK h6).swap.tail
section
variable {w : World} {L : List HP} {db m : Nat} {s : Dsk}
/-- the map of versions at one block: what is there, and how one more is laid in -/
theorem vers_open {V : Nat → List (List UInt8)} (h : SatL w (MapF RowsL m (vf V) :: L)) (i : Nat) : ∃ (es : IM) (Lr : HP) (u : Value) (rs : List Rw), rs.map (·.d) = V i ∧ SatL w (RowsR u rs :: MapI m es :: Lr :: L) ∧
    (∀ (w' : World) (L' : List HP), SatL w' (MapI m es :: L') → (Instr.lookup 57 (.map (some m)) (.int .i64 (i : Int)) false).run Try.prog w' = .ok u w') ∧
    (∀ (w' : World) (v' : Value) (l : List (List UInt8)) (L' : List HP), l ≠ [] → SatL w' (RowsL v' l :: MapI m (mput es (i : Int) v') :: Lr :: L') → SatL w' (MapF RowsL m (vf (fun j => if j = i then l else V j)) :: L')) := by
  obtain ⟨es, R, Lr, h1, h2, _, hput⟩ := mapf_open h (i : Int)
  have hlk : ∀ (w' : World) (L' : List HP), SatL w' (MapI m es :: L') → (Instr.lookup 57 (.map (some m)) (.int .i64 (i : Int)) false).run Try.prog w' = .ok ((mget es (i : Int)).getD (.slice none 0 0)) w' := fun w' L' h => run_lookup_sl key_vers h (i : Int)
  have hput' : ∀ (w' : World) (v' : Value) (l : List (List UInt8)) (L' : List HP), l ≠ [] → SatL w' (RowsL v' l :: MapI m (mput es (i : Int) v') :: Lr :: L') → SatL w' (MapF RowsL m (vf (fun j => if j = i then l else V j)) :: L') := by
    intro w' v' l L' hl h
    rw [← vf_upd V i l hl]
    exact hput w' v' l L' h
  by_cases hv : V i = []
  · rw [vf_none hv] at h2
    simp only at h2
    rw [h2] at hlk
    refine ⟨es, Lr, .slice none 0 0, [], by rw [hv]; rfl, ?_, hlk, hput'⟩
    exact sat_RowsR.2 (Sl_nil ((big_nil (f := fun r : Rw => SlB 5 r.v r.d)).2 h1.tail))
  · rw [vf_some hv] at h2
    simp only at h2
    obtain ⟨v, h3, rfl⟩ := h2
    rw [h3] at hlk
    obtain ⟨rs, hrs, h4⟩ := sat_RowsL.1 h1
    exact ⟨es, Lr, v, rs, hrs, h4, hlk, hput'⟩
theorem dok_succ {p k : Nat} {bs fl : List UInt8} (ok : DOk (s.wr p bs k) fl) (hp : p + k < s.n) (hr : (rowAt bs k).length = 512) : DOk (s.wr p bs (k + 1)) fl := by
  refine ⟨ok.bd, ok.len, ok.pl, fun i hi => ?_, fun i r h => ?_⟩
  · have hi : s.n ≤ i := hi
    rw [← wr_succ]
    simp only
    rw [if_neg (by omega)]
    exact ok.out i hi
  · rw [← wr_succ] at h
    simp only at h
    split at h
    · rcases List.mem_append.1 h with h | h
      · exact ok.row _ r h
      · rw [List.mem_singleton] at h; rw [h]; exact hr
    · exact ok.row i r h
theorem letsOut_seq (L : List HP) : ¬ LetsOut (seqPost L) := by rintro ⟨_, _, h⟩; exact h

set_option maxRecDepth 100000 in
set_option maxHeartbeats 4000000 in
theorem write_ok {p n vn vc : Nat} {va : Option Addr} {bs : List UInt8} (hb : bs.length = 512 * n) (hn : 1 ≤ n) (hp : p + n ≤ s.n) (hsm : n ≤ 1000) (hV : ∀ i, (s.V i).length ≤ 100000) (h : SatL w (DskR db s :: L)) (g : Gives L (RdB (.slice va vn vc) bs)) :
    Calls Try.prog 10 #[.pointer (some ⟨db, 0, none⟩), .int .i64 p, .slice va vn vc] w (Ret fun r w' => r = .int .i64 0 ∧ SatL w' (DskR db (s.wr p bs n) :: L)) := by
  obtain ⟨rfl, hvc, hvc2, b, off, rfl, _⟩ := (g w h.tail).at (by omega)
  have hsn : s.n ≤ 65536 := by obtain ⟨_, _, _, _, _, ok, _⟩ := DskR.form h; exact ok.bd.2
  rw [hb] at hvc
  obtain ⟨z, hz⟩ : ∃ z, z = 512 * n := ⟨_, rfl⟩
  rw [hb, ← hz] at g ⊢
  rw [← hz] at hvc
  have h1 := h.alloc (.cells #[.pointer (some ⟨db, 0, none⟩)] 24)
  have h2 := h1.allocN (n := w.heap.size + 1) (.cells #[.int .i64 p] 3) (by simp)
  have hha := has_yes (p := p) (n := n) (SatL.pull h2 2 : SatL _ (DskR db s :: _)) ⟨by omega, by omega, by omega, by omega⟩
  have hch := chunk_ok (some ⟨b, off, none⟩) z vc
  have e1 : ((z : Nat) : Int) / 512 = n := by omega
  have e2 : ((z : Nat) : Int) % 512 = 0 := by omega
  have e3 : ¬ (z : Int) = 0 := by omega
  have e4 : Int.tdiv (z : Int) 512 = n := by rw [Int.tdiv_eq_ediv_of_nonneg (by omega)]; exact e1
  have e5 : Int.tmod (z : Int) 512 = 0 := by rw [Int.tmod_eq_emod_of_nonneg (by omega)]; exact e2
  have d3 := SatL.cell (h2.pull 1 : SatL _ (cl _ _ _ :: _)) (i := 0) (v := .pointer (some ⟨db, 0, none⟩)) rfl
  have d4 := SatL.cell (h2 : SatL _ (cl _ _ _ :: _)) (i := 0) (v := .int .i64 p) rfl
  have Hz := hid hz
  have Hb := hid hb
  clear hz hb
  refine (callsIn_wide (n := 6)).1 ?_
  refine callsIn_of_wp_marks Try.func10 rfl trivial ?_ rfl
  simp only [Try.ntmps10, List.size_toArray, List.length_cons, List.length_nil, Nat.reduceAdd, Nat.reduceSub, Array.replicate_succ, Array.replicate_zero, List.push_toArray, List.append_toArray, List.nil_append, List.cons_append]
  refine wpIn_wide.2 ?_
  go_wp2_with (first
    | (go_at_call 22; (with_reducible refine hha.mono ?_); rintro e w' ⟨v, rfl, rfl, rfl⟩)
    | (go_at_call 23; (with_reducible refine (hch _).mono ?_); rintro e w' ⟨rfl, rfl⟩; have h4 := (h2.allocN (n := w.heap.size + 2) (.cells #[.slice (some ⟨b, off, none⟩) z vc] 33) (by simp)).allocN (n := w.heap.size + 3) (.cells #[.int .i64 512] 3) (by simp)))
  rw [← wr_zero s p bs] at h4
  have h5 := h4.bring [1, 0, 3, 2, 4]
  clear h1 h2 h4 hha hch d3 d4 h
  generalize w.heap.size = hb0 at *
  refine (wpIn_wide (n := 6)).1 ?_
  refine wpIn_rangeFunc_sl (F := Fence.wide) (n := 6) (a₁ := ?act) rfl (by omega) (gf := 37) (lb := #[.pointer (some ⟨hb0 + 2, 0, none⟩), .pointer (some ⟨hb0 + 3, 0, none⟩)]) rfl trivial (enters_of Try.func37 (by kernel_rfl) rfl)
    (chunk_seq (m := n) Hz.out (by have := Hz.out; omega) hvc hvc2) (fun x => rfl) (fun pre => cl hb0 24 #[.pointer (some ⟨db, 0, none⟩)] :: cl (hb0 + 1) 3 #[.int .i64 ((p + pre.length : Nat) : Int)] :: DskR db (s.wr p bs pre.length) :: L) h5 ?assign ?body ?done
  case assign =>
    intro l x W K hK
    gi_wp2
    exact hK
  case done =>
    intro D W hW
    rw [List.length_range] at hW
    have k6 := SatL.putObj hW (.deferred none)
    have hK : W.heap[D]? = some (.deferred (some [])) := hW.heap
    go_wp2
    refine ⟨by simp, .inl ⟨_, _, rfl, run_takeDeferred hK, ?_⟩⟩
    refine ⟨_, results_tmp rfl _ _ _, Ret.mk ⟨rfl, ?_⟩⟩
    exact SatL.tail (SatL.tail (SatL.tail (SatL.tail (SatL.tail k6))))
  case body =>
    intro l pre x X Y W hpre hW
    have hpl : pre.length + 1 ≤ n := by
      have := hpre.length_le
      simpa using this
    have hx : x = pre.length := by
      have h1 := List.prefix_iff_eq_take.1 hpre
      rw [List.length_append, List.length_cons, List.length_nil, List.take_range, Nat.min_eq_left (by omega), List.range_succ] at h1
      have h2 := congrArg (fun l => l[pre.length]?) h1
      simp at h2
      exact h2
    subst hx
    rw [List.length_append, List.length_cons, List.length_nil]
    obtain ⟨k, hk⟩ : ∃ k, k = pre.length := ⟨_, rfl⟩
    rw [← hk] at hW hpl ⊢
    obtain ⟨i, hi⟩ : ∃ i, i = p + k := ⟨_, rfl⟩
    have hin : i < s.n := by omega
    have hVi : (s.V i).length ≤ 100000 := hV i
    obtain ⟨b0, off0, c0, m, fl, ok, q1, q2, h1⟩ := DskR.form (SatL.pull hW 6 : SatL W (DskR db (s.wr p bs k) :: _))
    obtain ⟨es, Lr, u, rs, hrs, h2, hlk, hput⟩ := vers_open (SatL.pull h1 2 : SatL W (MapF RowsL m (vf (s.wr p bs k).V) :: _)) i
    have hrl : rs.length = (s.V i).length := by
      have := congrArg List.length hrs
      rw [List.length_map, hi, wr_at, ← hi] at this; exact this
    have hrow : (rowAt bs k).length = 512 := by unfold rowAt; rw [List.length_take, List.length_drop]; have := Hb.out; omega
    have hbk : 512 * (k + 1) ≤ bs.length := by have := Hb.out; omega
    obtain ⟨ua, uc, rfl, u1, u2⟩ := Sl.valn (sat_RowsR.1 h2) (m := rs.length) (by rw [List.length_map])
    have hd := sat_drew.2 h2
    have hcl := clone_rd (v := chunkV b off k) (xs := rowAt bs k) hd (fun w' h' => RdB.chunk (g w' h'.tail.tail.tail.tail.tail.tail.tail.tail.tail.tail.tail) hbk) (by omega)
    have hS := hid (fun (w' : World) (L' : List HP) (h : SatL w' (MapI m es :: cl db 59 #[.slice (some ⟨b0, off0, none⟩) (512 * s.n) c0, .map (some m)] :: cl hb0 24 #[.pointer (some ⟨db, 0, none⟩)] :: cl (hb0 + 1) 3 #[.int .i64 (i : Int)] :: L')) =>
      (⟨SatL.cell (h.pull 2 : SatL w' (cl hb0 _ _ :: _)) (i := 0) rfl, SatL.cell (h.pull 3 : SatL w' (cl (hb0 + 1) _ _ :: _)) (i := 0) rfl, SatL.cell (h.pull 1 : SatL w' (cl db _ _ :: _)) (i := 1) rfl, hlk w' _ h⟩ :
        w'.cell? ⟨hb0, 0, none⟩ = some (.pointer (some ⟨db, 0, none⟩)) ∧ w'.cell? ⟨hb0 + 1, 0, none⟩ = some (.int .i64 (i : Int)) ∧ w'.cell? ⟨db, 1, none⟩ = some (.map (some m)) ∧ (Instr.lookup 57 (.map (some m)) (.int .i64 (i : Int)) false).run Try.prog w' = .ok (.slice ua rs.length uc) w'))
    rw [← hi] at hd hcl
    have S0 := hS.out _ _ (hd.bring [1, 3, 9, 10])
    have Hput := hid hput
    have Hrs := hid hrs
    have Hrl := hid hrl
    have Hok := hid ok
    have Hi := hid hi
    have Hk := hid hk
    have Hrow := hid hrow
    clear hput hrs hrl ok hi hk hlk hrow h1 h2 hW
    refine wpIn_block (wpIn_seq ?_)
    refine GoE.startIn (fun w' => w'.cell? ⟨hb0, 0, none⟩ = some (.pointer (some ⟨db, 0, none⟩)) ∧ w'.cell? ⟨hb0 + 1, 0, none⟩ = some (.int .i64 (i : Int)) ∧ w'.cell? ⟨db, 1, none⟩ = some (.map (some m)) ∧ (Instr.lookup 57 (.map (some m)) (.int .i64 (i : Int)) false).run Try.prog w' = .ok (.slice ua rs.length uc) w') 15 (z := 16) rfl (by kernel_rfl) (by rintro ⟨_, _, h⟩; exact h) (by kernel_rfl) ?_
    refine GoE.take (i := 0) (v := ?_) rfl (by decide) (by kernel_rfl) (by kernel_rfl) (by kernel_rfl) (by kernel_rfl) (fun _ _ _ h => h) (by rfl) ?_ (by assumption) ?_
    rotate_left
    · intro w hSw; (try dsimp only at hSw); go_simp; try (with_reducible rfl)
    try simp only [Act.put, List.setIfInBounds_toArray, List.set_cons_zero, List.set_cons_succ]
    refine GoE.take (i := 1) (v := ?_) rfl (by decide) (by kernel_rfl) (by kernel_rfl) (by kernel_rfl) (by kernel_rfl) (fun _ _ _ h => h) (by rfl) ?_ (by assumption) ?_
    rotate_left
    · intro w hSw; (try dsimp only at hSw); go_simp; try (with_reducible rfl)
    try simp only [Act.put, List.setIfInBounds_toArray, List.set_cons_zero, List.set_cons_succ]
    refine GoE.take (i := 2) (v := ?_) rfl (by decide) (by kernel_rfl) (by kernel_rfl) (by kernel_rfl) (by kernel_rfl) (fun _ _ _ h => h) (by rfl) ?_ (by assumption) ?_
    rotate_left
    · intro w hSw; (try dsimp only at hSw); go_simp; try (with_reducible rfl)
    try simp only [Act.put, List.setIfInBounds_toArray, List.set_cons_zero, List.set_cons_succ]
    refine GoE.take (i := 3) (v := ?_) rfl (by decide) (by kernel_rfl) (by kernel_rfl) (by kernel_rfl) (by kernel_rfl) (fun _ _ _ h => h) (by rfl) ?_ (by assumption) ?_
    rotate_left
    · intro w hSw; (try dsimp only at hSw); go_simp; try (with_reducible rfl)
    try simp only [Act.put, List.setIfInBounds_toArray, List.set_cons_zero, List.set_cons_succ]
    refine GoE.take (i := 4) (v := ?_) rfl (by decide) (by kernel_rfl) (by kernel_rfl) (by kernel_rfl) (by kernel_rfl) (fun _ _ _ h => h) (by rfl) ?_ (by assumption) ?_
    rotate_left
    · intro w hSw; (try dsimp only at hSw); go_simp; try (with_reducible rfl)
    try simp only [Act.put, List.setIfInBounds_toArray, List.set_cons_zero, List.set_cons_succ]
    refine GoE.take (i := 5) (v := ?_) rfl (by decide) (by kernel_rfl) (by kernel_rfl) (by kernel_rfl) (by kernel_rfl) (fun _ _ _ h => h) (by rfl) ?_ (by assumption) ?_
    rotate_left
    · intro w hSw; (try dsimp only at hSw); go_simp; try (with_reducible rfl)
    try simp only [Act.put, List.setIfInBounds_toArray, List.set_cons_zero, List.set_cons_succ]
    refine GoE.take (i := 6) (v := ?_) rfl (by decide) (by kernel_rfl) (by kernel_rfl) (by kernel_rfl) (by kernel_rfl) (fun _ _ _ h => h) (by rfl) ?_ (by assumption) ?_
    rotate_left
    · intro w hSw; (try dsimp only at hSw); go_simp; try (with_reducible rfl)
    try simp only [Act.put, List.setIfInBounds_toArray, List.set_cons_zero, List.set_cons_succ]
    refine GoE.take (i := 7) (v := ?_) rfl (by decide) (by kernel_rfl) (by kernel_rfl) (by kernel_rfl) (by kernel_rfl) (fun _ _ _ h => h) (by rfl) ?_ (by assumption) ?_
    rotate_left
    · intro w hSw; (try dsimp only at hSw); go_simp; try (with_reducible rfl)
    try simp only [Act.put, List.setIfInBounds_toArray, List.set_cons_zero, List.set_cons_succ]
    refine GoE.take (i := 8) (v := ?_) rfl (by decide) (by kernel_rfl) (by kernel_rfl) (by kernel_rfl) (by kernel_rfl) (fun _ _ _ h => h) (by rfl) ?_ (by assumption) ?_
    rotate_left
    · intro w hSw; (try dsimp only at hSw); go_simp; try (with_reducible rfl)
    try simp only [Act.put, List.setIfInBounds_toArray, List.set_cons_zero, List.set_cons_succ]
    refine GoE.take (i := 9) (v := ?_) rfl (by decide) (by kernel_rfl) (by kernel_rfl) (by kernel_rfl) (by kernel_rfl) (fun _ _ _ h => h) (by rfl) ?_ (by assumption) ?_
    rotate_left
    · intro w hSw; (try dsimp only at hSw); go_simp; try (with_reducible rfl)
    try simp only [Act.put, List.setIfInBounds_toArray, List.set_cons_zero, List.set_cons_succ]
    refine GoE.take (i := 10) (v := ?_) rfl (by decide) (by kernel_rfl) (by kernel_rfl) (by kernel_rfl) (by kernel_rfl) (fun _ _ _ h => h) (by rfl) ?_ (by assumption) ?_
    rotate_left
    · intro w hSw; (try dsimp only at hSw); go_simp; try (with_reducible rfl)
    try simp only [Act.put, List.setIfInBounds_toArray, List.set_cons_zero, List.set_cons_succ]
    refine GoE.take (i := 11) (v := ?_) rfl (by decide) (by kernel_rfl) (by kernel_rfl) (by kernel_rfl) (by kernel_rfl) (fun _ _ _ h => h) (by rfl) ?_ (by assumption) ?_
    rotate_left
    · intro w hSw; (try dsimp only at hSw); go_simp; try (with_reducible rfl)
    try simp only [Act.put, List.setIfInBounds_toArray, List.set_cons_zero, List.set_cons_succ]
    refine GoE.one (i := 12) rfl (by kernel_rfl) (fun K hK => ?_)
    go_simp
    go_at_call 24
    (with_reducible refine hcl.mono ?_)
    rintro e w2 ⟨cv, rfl, h3⟩
    have S2 := hS.out _ _ (h3.bring [2, 4, 10, 11])
    obtain ⟨ca, cc, rfl, _, _⟩ := SlB.valn h3
    have h4 := h3.alloc (.cells #[.slice ca (rowAt bs k).length cc] 33)
    have S3 := hS.out _ _ (h4.bring [3, 5, 11, 12])
    go_wp2_with fail
    refine hK.out _ _ (fun _ => S2) ?_
    clear hK K h4
    try simp only [Act.put, List.setIfInBounds_toArray, List.set_cons_zero, List.set_cons_succ]
    refine GoE.one (i := 13) rfl (by kernel_rfl) (fun K hK => ?_)
    go_simp
    refine hK.out _ _ (fun _ => S3) ?_
    clear hK K
    try simp only [Act.put, List.setIfInBounds_toArray, List.set_cons_zero, List.set_cons_succ]
    refine GoE.one (i := 14) rfl (by kernel_rfl) (fun K hK => ?_)
    refine step_push1_sl (w := w2) (nb := w2.heap.size) rfl rfl (.tmp 37) (.tmp 40) rfl elem_rows (by omega) rfl (sat_RowsR.1 h3.swap) rfl rfl (by rw [List.length_map]; have := Hrl.out; omega) ?_
    intro v5 w5 h5
    have S5 := hS.out _ _ (h5.bring [3, 5, 11, 12])
    refine hK.out _ _ (fun _ => S5) ?_
    clear hK K
    try simp only [Act.put, List.setIfInBounds_toArray, List.set_cons_zero, List.set_cons_succ]
    refine GoE.one (i := 15) rfl (by kernel_rfl) (fun K hK => ?_)
    refine step_mapUpdate_sl (k := (i : Int)) (v := v5) rfl (.tmp 30) (.tmp 31) (.tmp 41) rfl key_vers rfl (SatL.pull h5 3 : SatL w5 (MapI m es :: _)) rfl rfl ?_
    intro w6 h6
    refine hK.out _ _ (fun h => absurd rfl h) ?_
    clear hK K
    try simp only [Act.put, List.setIfInBounds_toArray, List.set_cons_zero, List.set_cons_succ]
    refine GoE.done (by kernel_rfl) ?_
    have h7 := (big_cons (f := fun r : Rw => SlB 5 r.v r.d) (x := (⟨.slice ca (rowAt bs k).length cc, rowAt bs k⟩ : Rw)) (xs := rs)).2 (h6.bring [3, 2, 1, 0])
    have h8 := big_perm (List.perm_append_singleton (⟨.slice ca (rowAt bs k).length cc, rowAt bs k⟩ : Rw) rs).symm h7
    have h9 : SatL w6 (RowsL v5 ((s.wr p bs k).V i ++ [rowAt bs k]) :: MapI m (mput es (i : Int) v5) :: Lr :: _) := sat_RowsL.2 ⟨rs ++ [⟨.slice ca (rowAt bs k).length cc, rowAt bs k⟩], by rw [List.map_append, Hrs.out]; rfl, sat_RowsR.2 (by rw [List.map_append]; exact h8.swap)⟩
    have h10 := Hput.out _ _ _ _ (by simp) h9
    have e9 : (fun j => if j = i then (s.wr p bs k).V i ++ [rowAt bs k] else (s.wr p bs k).V j) = (s.wr p bs (k + 1)).V := by rw [Hi.out]; exact wr_succ s p bs k
    rw [e9] at h10
    have h11 := sat_DskR.2 ⟨_, _, _, dok_succ Hok.out (by have := Hi.out; omega) Hrow.out, h10.bring [1, 2, 0]⟩
    have z0 := SatL.cell (SatL.pull h11 6 : SatL w6 (cl (hb0 + 1) _ _ :: _)) (i := 0) (v := .int .i64 (i : Int)) rfl
    have f0 := SatL.free (SatL.pull h11 6 : SatL w6 (cl (hb0 + 1) _ _ :: _)) 0
    have h12 := SatL.set (SatL.pull h11 6 : SatL w6 (cl (hb0 + 1) _ _ :: _)) (i := 0) (.int .i64 ((i : Int) + 1))
    have e10 : ((i : Int) + 1) = ((p + (k + 1) : Nat) : Int) := by have := Hi.out; omega
    clear h6 h7 h8 h9 h10 h11 e9 h3 h5 hd hcl S0 S2 S3 S5
    show Code.wpIn _ _ _ _ _ _ _
    gi_wp2
    show SatL _ _
    rw [e10] at h12
    exact h12.bring [2, 3, 4, 5, 6, 0, 1]
end
end Go.Proofs.Ytjjiljijcigekaa
