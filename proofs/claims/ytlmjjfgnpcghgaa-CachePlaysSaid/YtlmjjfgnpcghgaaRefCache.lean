/- The document's cache that is owned: At, gone, use, New, Held. No condition beside the sizes that each names. -/
import Derived.Test.YtlmjjfgnpcghgaaRefCacheP
import Derived.Test.YtlmjjfgnpcghgaaPush
import Derived.Test.YtlmjjfgnpcghgaaRegE
import Derived.Deep.CutBlock
import Derived.Deep.CutRange
namespace Go.Proofs.Ytlmjjfgnpcghgaa
set_option linter.unusedVariables false
set_option linter.unusedSimpArgs false
open Go.RowKit
abbrev REntC (x : Ent) : HP := cl x.eb 69 #[.int .i64 x.b, x.dv, .bool x.dirty, .int .i64 x.pins]
def REntR (x : Ent) : HP := sep [REntC x, Sl 5 x.dv x.data]
abbrev RR (row : List Ent) : HP := big REntR row
abbrev RCacheC (xb : Nat) (most : Int) (rv : Value) : HP := cl xb 63 #[.int .i64 most, rv]
abbrev RPtrs (rv : Value) (row : List Ent) : HP := Sl 70 rv (row.map eptr)
abbrev RCacheO (xb : Nat) (most : Int) (rv : Value) (row : List Ent) (l : List HP) : List HP := RCacheC xb most rv :: RPtrs rv row :: RR row :: l
def RCacheR (xb : Nat) (most : Int) (row : List Ent) : HP := ex fun rv => sep [pur (row.map (·.b)).Nodup, RCacheC xb most rv, RPtrs rv row, RR row]
theorem elem_rptr : ElemOk Try.prog 61 70 1 8 [Value.pointer none] := .of (z := .pointer none) (by kernel_rfl) (by kernel_rfl) rfl rfl (by decide) (by simp [Value.oneCell'])
theorem find_take {α : Type} {p : α → Bool} {row : List α} {j : Nat} {x : α} (h : (row.take j).find? p = none) (hx : row[j]? = some x) (hp : p x = true) : row.find? p = some x := by
  have e : row = row.take j ++ x :: row.drop (j + 1) := by
    obtain ⟨h1, h2⟩ := List.getElem?_eq_some_iff.1 hx
    conv => lhs; rw [← List.take_append_drop j row, List.drop_eq_getElem_cons h1, h2]
  rw [e, List.find?_append, h, List.find?_cons, hp]; rfl
theorem find_take_succ {α : Type} {p : α → Bool} {row : List α} {j : Nat} {x : α} (h : (row.take j).find? p = none) (hx : row[j]? = some x) (hp : p x = false) : (row.take (j + 1)).find? p = none := by
  rw [List.take_add_one, hx, List.find?_append, h]
  simp [hp]
def outE (row : List Ent) (xe : Nat) : List Ent := row.filter fun y => !(y.eb == xe)
theorem outE_succ {row : List Ent} {j : Nat} {x : Ent} (h : row[j]? = some x) (xe : Nat) : outE (row.take (j + 1)) xe = outE (row.take j) xe ++ (if x.eb = xe then [] else [x]) := by
  unfold outE
  rw [List.take_add_one, h, Option.toList_some, List.filter_append, List.filter_cons]
  by_cases e : x.eb = xe <;> simp [e]
theorem outE_len (row : List Ent) (j xe : Nat) : (outE (row.take j) xe).length ≤ row.length := by
  unfold outE
  exact Nat.le_trans (List.length_filter_le _ _) (by rw [List.length_take]; omega)
section
variable {w : World} {l : List HP} {xb : Nat} {most : Int} {row : List Ent} {rv : Value}
theorem RCache_open : SatL w (RCacheR xb most row :: l) ↔ ∃ rv, (row.map (·.b)).Nodup ∧ SatL w (RCacheO xb most rv row l) := by
  simp only [RCacheR, sat_ex, sat_sep, List.cons_append, List.nil_append, sat_pur]
theorem REntR_open {x : Ent} : SatL w (REntR x :: l) ↔ SatL w (REntC x :: Sl 5 x.dv x.data :: l) := by
  simp only [REntR, sat_sep, List.cons_append, List.nil_append]
theorem RR_apart {r1 r2 : List Ent} {x y : Ent} (h : SatL w (RR (r1 ++ x :: r2) :: l)) (hy : y ∈ r1 ++ r2) : ¬ y.eb = x.eb := by
  obtain ⟨a, b, hab⟩ := List.append_of_mem hy
  have h1 := REntR_open.1 (big_mid.1 h)
  rw [hab] at h1
  have h2 := REntR_open.1 (big_mid.1 (h1.pull 2))
  have h3 : SatL w (REntC x :: REntC y :: _) := h2.pull 3
  exact fun e => SatL.ne h3 e.symm
theorem outE_mid {r1 r2 : List Ent} {x : Ent} (h : SatL w (RR (r1 ++ x :: r2) :: l)) : outE (r1 ++ x :: r2) x.eb = r1 ++ r2 := by
  have hne := fun y (hy : y ∈ r1 ++ r2) => RR_apart h hy
  have e : ∀ r : List Ent, (∀ y ∈ r, y ∈ r1 ++ r2) → r.filter (fun y => !(y.eb == x.eb)) = r := fun r hr => by
    rw [List.filter_eq_self]; intro y hy; have := hne y (hr y hy); simpa using this
  unfold outE
  rw [List.filter_append, List.filter_cons, e r1 (fun y hy => List.mem_append_left _ hy), e r2 (fun y hy => List.mem_append_right _ hy)]
  simp
theorem rcells {x : Ent} {j : Nat} (hx : row[j]? = some x) (h : SatL w (RR row :: l)) : w.cell? ⟨x.eb, 0, none⟩ = some (.int .i64 x.b) ∧ w.cell? ⟨x.eb, 1, none⟩ = some x.dv ∧ w.cell? ⟨x.eb, 2, none⟩ = some (.bool x.dirty) ∧ w.cell? ⟨x.eb, 3, none⟩ = some (.int .i64 x.pins) := by
  obtain ⟨r1, r2, rfl⟩ := List.append_of_mem (List.mem_of_getElem? hx)
  have h2 := REntR_open.1 (big_mid.1 h)
  exact ⟨h2.cell (i := 0) rfl, h2.cell (i := 1) rfl, h2.cell (i := 2) rfl, h2.cell (i := 3) rfl⟩
theorem rptr_cell {x : Ent} {j c : Nat} {a : Option Addr} (hx : row[j]? = some x) (h : SatL w (RPtrs (.slice a row.length c) row :: l)) : ∃ b o, a = some ⟨b, o, none⟩ ∧ w.cell? ⟨b, o + j, none⟩ = some (.pointer (some ⟨x.eb, 0, none⟩)) := by
  obtain ⟨b, o, rfl⟩ := Sl.addr h (by have := (List.getElem?_eq_some_iff.1 hx).1; omega)
  exact ⟨b, o, rfl, Sl.cell h (by rw [List.getElem?_map, hx]; rfl)⟩
set_option maxRecDepth 100000 in
set_option maxHeartbeats 1000000 in
theorem refat_ok {k : Int} (h : SatL w (RCacheO xb most rv row l)) (hlen : row.length ≤ 100000) :
    Calls Try.prog 44 #[.pointer (some ⟨xb, 0, none⟩), .int .i64 k] w (Ret fun v w' => v = .pointer ((row.find? (has k)).map fun x => ⟨x.eb, 0, none⟩) ∧ w = w') := by
  obtain ⟨a, c, rfl, ha1, ha2⟩ := Sl.valn (h.pull 1 : SatL w (Sl _ _ _ :: _)) (m := row.length) (List.length_map _)
  have c1 : w.cell? ⟨xb, 1, none⟩ = some (.slice a row.length c) := h.cell (i := 1) rfl
  obtain ⟨res, hres⟩ : ∃ res, res = row.find? (has k) := ⟨_, rfl⟩
  rw [← hres]
  have Hres := hid hres
  have H := hid h
  clear hres h
  go_enter Try.func44, Try.ntmps44
  go_wp2
  go_loopw [5] (fun i wr => ∃ j : Nat, j ≤ row.length ∧ i = .int .i64 j ∧ (row.take j).find? (has k) = none ∧ w = wr) (fun i _ => row.length - (intOf i).toNat)
  case atStart => exact ⟨0, by omega, rfl, rfl, rfl⟩
  case round =>
    obtain ⟨j, hj, rfl, hno, rfl⟩ := hrel
    by_cases hlt : j < row.length
    · have hjz : (j : Int) < row.length := by omega
      obtain ⟨x, hx⟩ : ∃ x, row[j]? = some x := ⟨_, List.getElem?_eq_getElem hlt⟩
      obtain ⟨b, o, rfl, cp⟩ := rptr_cell hx (H.out.pull 1)
      obtain ⟨e0, _, _, _⟩ := rcells hx (H.out.pull 2)
      by_cases hk : x.b = k
      · have hr : res = some x := by rw [Hres.out]; exact find_take hno hx (by simpa [has] using hk)
        have Hr := hid hr
        clear hno hx hr
        generalize x.b = xb' at *
        subst hk
        go_wp2
        go_ret
        exact Ret.mk ⟨by rw [Hr.out]; rfl, rfl⟩
      · have Hno := hid (find_take_succ hno hx (by simpa [has] using hk))
        have hk2 : (x.b == k) = false := by simpa using hk
        clear hno hx
        generalize x.b = xb' at *
        go_wp2
        go_roundw
        case rel => exact ⟨j + 1, by omega, by go_num, Hno.out, trivial⟩
        case measure => simp [intOf]; omega
    · obtain rfl : j = row.length := by omega
      rw [List.take_length] at hno
      have Hr := hid (Hres.out.trans hno)
      clear hno
      go_wp2
      go_ret
      exact Ret.mk ⟨by rw [Hr.out]; rfl, rfl⟩
theorem sized_rblk : ∃ j, Try.prog.info? 69 = some j ∧ j.size ≠ 0 := sized (k := 4) (by kernel_rfl) (by decide)
/-- a block stands there -/
def RBlk (xe : Nat) (w : World) : Prop := ∃ cs, w.heap[xe]? = some (.cells cs 69 (0, 0))
theorem rblk_row {x : Ent} (hx : x ∈ row) : Gives (RR row :: l) (RBlk x.eb) := fun w h => by
  obtain ⟨r1, r2, rfl⟩ := List.append_of_mem hx
  exact ⟨_, (REntR_open.1 (big_mid.1 h)).heap⟩
theorem rblk_neq {a b : Nat} (h : ¬ a = b) (ha : RBlk a w) (hb : RBlk b w) : (binOp .neq 70 (.pointer (some ⟨a, 0, none⟩)) (.pointer (some ⟨b, 0, none⟩))).run Try.prog w = .ok (.bool true) w := by
  obtain ⟨j, hj, hj0⟩ := sized_rblk
  obtain ⟨ca, ha⟩ := ha
  obtain ⟨cb, hb⟩ := hb
  have h2 : ∀ d : Nat, (Op.equalIn (d + 1) 70 (.pointer (some ⟨a, 0, none⟩)) (.pointer (some ⟨b, 0, none⟩))).run Try.prog w = .ok false w := fun d => by
    simp [Op.equalIn, run_underlying Try.underlying70, sizeOf, typeInfo, hj, hj0, run_sameAddr_other w (a := ⟨a, 0, none⟩) (b := ⟨b, 0, none⟩) (fun e => h (congrArg Addr.block e)) ha hb]
  simp only [binOp]
  simp [Op.equal, Op.maxDepth, h2 9999]
theorem rblk_neq_same (a : Nat) (w : World) : (binOp .neq 70 (.pointer (some ⟨a, 0, none⟩)) (.pointer (some ⟨a, 0, none⟩))).run Try.prog w = .ok (.bool false) w := by
  obtain ⟨j, hj, hj0⟩ := sized_rblk
  have h2 : ∀ d : Nat, (Op.equalIn (d + 1) 70 (.pointer (some ⟨a, 0, none⟩)) (.pointer (some ⟨a, 0, none⟩))).run Try.prog w = .ok true w := fun d => by
    simp [Op.equalIn, run_underlying Try.underlying70, sizeOf, typeInfo, hj, run_sameAddr_same]
  simp only [binOp]
  simp [Op.equal, Op.maxDepth, h2 9999]
set_option maxRecDepth 100000 in
set_option maxHeartbeats 1000000 in
theorem refgone_ok {xe : Nat} (h : SatL w (RCacheO xb most rv row l)) (hlen : row.length ≤ 100000) (gx : Gives (RR row :: l) (RBlk xe)) :
    Calls Try.prog 48 #[.pointer (some ⟨xb, 0, none⟩), .pointer (some ⟨xe, 0, none⟩)] w (Ret fun v w' => v = .tuple #[] ∧ ∃ rv', SatL w' (RCacheC xb most rv' :: RPtrs rv' (outE row xe) :: RR row :: l)) := by
  obtain ⟨a, c, rfl, ha1, ha2⟩ := Sl.valn (h.pull 1 : SatL w (Sl _ _ _ :: _)) (m := row.length) (List.length_map _)
  have hc1 := hid (fun (w' : World) (X : List HP) (h : SatL w' (RCacheC xb most (.slice a row.length c) :: X)) => (⟨h.cell (i := 1) rfl, h.free 1⟩ : w'.cell? ⟨xb, 1, none⟩ = some (.slice a row.length c) ∧ w'.frozen? ⟨xb, 1, none⟩ = false))
  have hol := hid (fun j => outE_len row j xe)
  have Gx := hid gx
  clear gx
  have H := hid h
  obtain ⟨c1, _⟩ := hc1.out _ _ h
  clear h
  go_enter Try.func48, Try.ntmps48
  go_wp2
  go_loopw [4, 5] (fun lv i wr => ∃ j : Nat, j ≤ row.length ∧ i = .int .i64 j ∧ SatL wr (RPtrs lv (outE (row.take j) xe) :: RCacheO xb most (.slice a row.length c) row l)) (fun _ i _ => row.length - (intOf i).toNat)
  case atStart => exact ⟨0, by omega, rfl, Sl_nil H.out⟩
  case round =>
    clear H c1
    obtain ⟨j, hj, rfl, hs⟩ := hrel
    obtain ⟨c1, f1⟩ := hc1.out _ _ (hs.pull 1)
    obtain ⟨oa, on, oc, rfl⟩ := Sl.val hs
    by_cases hlt : j < row.length
    · have hjz : (j : Int) < row.length := by omega
      obtain ⟨x, hx⟩ : ∃ x, row[j]? = some x := ⟨_, List.getElem?_eq_getElem hlt⟩
      obtain ⟨b, o, rfl, cp⟩ := rptr_cell hx (hs.pull 2)
      have hsn := outE_succ hx xe
      have hb1 := rblk_row (l := l) (List.mem_of_getElem? hx) wr (hs.tail.tail.tail)
      have hb2 := Gx.out wr hs.tail.tail.tail
      have hln : ((outE (row.take j) xe).map eptr).length ≤ 100000 := by rw [List.length_map]; have := hol.out j; omega
      have b1 : (((outE (row.take j) xe).map eptr).length + 1) * 8 ≤ 140737488355328 := by omega
      by_cases hk : x.eb = xe
      · rw [if_pos hk, List.append_nil] at hsn
        have Hsn := hid hsn
        have Hs := hid hs
        subst hk
        have hq := rblk_neq_same x.eb wr
        clear hsn hx hs b1 hln hb1 hb2
        generalize x.eb = e at *
        go_wp2
        go_roundw
        case rel => exact ⟨j + 1, by omega, by go_num, by rw [Hsn.out]; exact Hs.out⟩
        case measure => simp [intOf]; omega
      · rw [if_neg hk] at hsn
        have Hsn := hid (show (outE (row.take j) xe).map eptr ++ [.pointer (some ⟨x.eb, 0, none⟩)] = (outE (row.take (j + 1)) xe).map eptr by rw [hsn, List.map_append]; rfl)
        have hq := rblk_neq hk hb1 hb2
        clear hsn hx hb1 hb2 hk
        generalize x.eb = e at *
        have hs' : SatL wr (Sl 70 (.slice oa on oc) ((outE (row.take j) xe).map eptr) :: _) := hs
        clear hs
        generalize (outE (row.take j) xe).map eptr = OL at *
        go_wp2_with (at_builtin; refine wpList_push_sl rfl (.tmp 24) (.tmp 32) rfl elem_rptr (by decide) rfl hs' rfl rfl b1 ?_; intro v5 w5 h5; rw [Hsn.out] at h5)
        go_roundw
        case rel => exact ⟨j + 1, by omega, by go_num, h5⟩
        case measure => simp [intOf]; omega
    · obtain rfl : j = row.length := by omega
      rw [List.take_length] at hs
      have h2 := (hs.pull 1 : SatL wr (cl _ _ _ :: _)).set (i := 1) (.slice oa on oc)
      have H2 := hid (SatL.tail (h2.bring [2, 0, 1, 3]))
      clear hs h2
      go_wp2
      go_end0
      exact Ret.mk ⟨rfl, _, H2.out⟩
end
end Go.Proofs.Ytlmjjfgnpcghgaa
