/- An inode as a value, and the operations at such values. No condition. -/
import Derived.Test.YtklnlomleiebaaaInoW
import Derived.Test.YtklnlomleiebaaaCopy
import Derived.Deep.MidRow
import Derived.Laws.Tables
import Derived.Laws.Rows
import Derived.Laws.ResultCell
namespace Go.Proofs.Ytklnlomleiebaaa
set_option linter.unusedVariables false
set_option linter.unusedSimpArgs false
open Go.RowKit
structure Ino where
  ty : Int
  mode : Int
  nlink : Int
  uid : Nat
  gid : Nat
  gen : Nat
  size : Nat
  verf : Nat
  tm : List Nat
  ptr : List Nat
def tvs (l : List Nat) : List Value := l.map fun n : Nat => .int .u32 (n : Int)
def inoC (x : Ino) : List Value := [.int .i64 x.ty, .int .i64 x.mode, .int .i64 x.nlink, .int .u32 (x.uid : Int), .int .u32 (x.gid : Int), .int .u32 (x.gen : Int), .int .u64 (x.size : Int), .int .u64 (x.verf : Int)] ++ (tvs x.tm ++ pvs x.ptr)
def inoA (x : Ino) : Array Value := (inoC x).toArray
abbrev inoV (x : Ino) : Value := .agg (inoA x)
def ino0 : Ino := ⟨0, 0, 0, 0, 0, 0, 0, 0, [0, 0, 0, 0, 0, 0], [0, 0, 0, 0, 0, 0, 0, 0, 0]⟩
structure Ino.Ok (x : Ino) : Prop where
  tm : x.tm.length = 6
  ptr : x.ptr.length = 9
theorem ino0_ok : ino0.Ok := ⟨rfl, rfl⟩
theorem tvs_len (l : List Nat) : (tvs l).length = l.length := by simp [tvs]
theorem inoC_len {x : Ino} (h : x.Ok) : (inoC x).length = 23 := by simp [inoC, tvs_len, pvs_len, h.tm, h.ptr]
theorem inoA_size {x : Ino} (h : x.Ok) : (inoA x).size = 23 := by rw [inoA, List.size_toArray, inoC_len h]
theorem inoA_one (x : Ino) : (inoA x).all (·.oneCell') = true := by
  simp [inoA, inoC, tvs, pvs, Value.oneCell']
theorem inoA_at6 (x : Ino) : (inoA x)[6]? = some (.int .u64 (x.size : Int)) := by simp [inoA, inoC]
theorem inoC_get (x : Ino) (j : Nat) : (inoC x)[8 + j]? = (tvs x.tm ++ pvs x.ptr)[j]? := by
  unfold inoC
  rw [List.getElem?_append_right (by simp)]
  congr 1
  simp
theorem inoA_ptr {x : Ino} (h : x.Ok) {j : Nat} (hj : j < 9) : (inoA x)[14 + j]? = some (.int .i64 ((x.ptr.getD j 0 : Nat) : Int)) := by
  rw [inoA, List.getElem?_toArray, show 14 + j = 8 + (6 + j) by omega, inoC_get, List.getElem?_append_right (by rw [tvs_len, h.tm]; omega), tvs_len, h.tm, Nat.add_sub_cancel_left]
  exact pvs_get (by rw [h.ptr]; exact hj)
theorem inoA_set6 (x : Ino) (z : Nat) : (inoA x).setIfInBounds 6 (.int .u64 (z : Int)) = inoA { x with size := z } := by
  simp [inoA, inoC]
theorem inoA_setP {x : Ino} (h : x.Ok) (j p : Nat) : (inoA x).setIfInBounds (14 + j) (.int .i64 (p : Int)) = inoA { x with ptr := x.ptr.set j p } := by
  have e : (inoC x).set (14 + j) (.int .i64 (p : Int)) = inoC { x with ptr := x.ptr.set j p } := by
    have e1 : 14 + j = 8 + (6 + j) := by omega
    unfold inoC
    rw [e1, List.set_append_right _ _ (by simp), List.set_append_right _ _ (by simp [tvs_len, h.tm]), ← pvs_set]
    congr 2
    simp [tvs_len, h.tm]
  rw [inoA, inoA, ← e, List.setIfInBounds_toArray]
section
variable {P : Program} {w : World} {l : List HP} {T : Nat}
/-- a whole variable is read -/
theorem wpList_loadRow_cl {ops : Array Oper} {rest : List Oper} {o : Oper} {a : Act} {Q : Exit → Act → World → Prop} (hgd : o.guard = none) (ty : TypeId) (x : Operand) (ho : o.op = .load ty x)
    {b : Nat} {cs : Array Value} (hx : a.eval x = .pointer (some ⟨b, 0, none⟩)) (h : SatL w (cl b T cs :: l)) {d : TypeDesc} (hu : P.underlying ty = some d)
    (hd : (match d with | .struct _ | .array _ _ => true | _ => false) = true) (hi : (P.info? ty).map (·.size) = some cs.size)
    (K : wpList P ops Q rest (a.put o.dst (.agg cs)) w) : wpList P ops Q (o :: rest) a w :=
  wpList_plain hgd fun _ hK => wp_load_row ty x ho b hx T cs (0, 0) d h.heap hu hd hi (hK _ _ K)
/-- a whole variable is laid -/
theorem wpList_storeRow_cl {ops : Array Oper} {rest : List Oper} {o : Oper} {a : Act} {Q : Exit → Act → World → Prop} (hgd : o.guard = none) (ty : TypeId) (x y : Operand) (ho : o.op = .store ty x y)
    {b : Nat} {cs cells : Array Value} (hx : a.eval x = .pointer (some ⟨b, 0, none⟩)) (hy : a.eval y = .agg cells) (h : SatL w (cl b T cs :: l))
    (hi : (P.info? ty).map (·.size) = some cells.size) (hs : cs.size = cells.size) (h1 : cells.all (·.oneCell') = true)
    (K : ∀ w', SatL w' (cl b T cells :: l) → wpList P ops Q rest (a.put o.dst undef) w') : wpList P ops Q (o :: rest) a w :=
  wpList_plain hgd fun _ hK => wp_store_row ty x y ho b cells hx hy T cs h.heap hi hs h1 (hK _ _ (K _ (h.setRow cells)))
/-- the first result lies in a variable -/
theorem results_cell_cl {fn : Func} {p u : Tmp} {ty : TypeId} {tmps : Array Value} {b : Nat} {cs : Array Value} {d : TypeDesc} (h : fn.results = #[.cell p ty, .tmp u]) (hp : tmps.getD p undef = .pointer (some ⟨b, 0, none⟩)) (hs : SatL w (cl b T cs :: l))
    (hu : P.underlying ty = some d) (hd : (match d with | .struct _ | .array _ _ => true | _ => false) = true) (hi : (P.info? ty).map (·.size) = some cs.size) :
    (results fn tmps).run P w = .ok (.tuple #[.agg cs, tmps.getD u undef]) w := by
  rw [results_cell_tmp h, hp]
  simp [asAddr, run_loadVar_row w b T ty cs (0, 0) d hs.heap hu hd hi, Result.andThen]
/-- copy into a part of a row, in a region that has drawn -/
theorem step_copyW {bytes : Nat} {xs ys zs : List Value} {ops : Array Oper} {o : Oper} {a : Act} {K : Act → World → Prop} {Q : Exit → Act → World → Prop} {X : Prop} (hgd : o.guard = none) (s x : Operand) {t u : Nat}
    (ho : o.op = .call { callee := .builtin .copy, args := #[s, x], argTypes := #[t, u] }) (E : ElemOk P t T 1 bytes zs) {b off n cap i c d : Nat} (hs : a.eval s = .slice (some ⟨b, off + i, none⟩) d c)
    (h : SatL w (Sl T (.slice (some ⟨b, off, none⟩) n cap) xs :: l)) {y : Value} (hy : a.eval x = y) {m : Nat} (hx : SrcOk P u 1 w y m ys)
    (h1 : ∀ y ∈ ys, y.oneCell' = true) (him : i + m ≤ n) (hmd : m ≤ d)
    (H : ∀ w', SatL w' (Sl T (.slice (some ⟨b, off, none⟩) n cap) (xs.take i ++ ys ++ xs.drop (i + m)) :: l) → K (a.put o.dst (.int .i64 m)) w') :
    if Region.wanted o (yielded ops a.tmps) = true then Oper.wp P o a w K Q else X := by
  have hw : Region.wanted o (yielded ops a.tmps) = true := by simp [Region.wanted, hgd]
  rw [if_pos hw]
  obtain ⟨w', hr, h2⟩ := run_copy_sl (ty := o.type) (c := c) (d := d) E h hx h1 him hmd
  unfold Oper.wp execOp
  simp only [ho, resolve, invoke, builtin, Sem.run_bind, Sem.run_pure, Result.andThen_ok, List.map_toArray, List.map_cons, List.map_nil, hs, hy, hr]
  exact H w' h2
end
theorem bvs_patch (d x : List UInt8) (off : Nat) : (bvs d).take off ++ bvs x ++ (bvs d).drop (off + x.length) = bvs (patch d off x) := by
  simp [patch, bvs, List.map_append, List.map_take, List.map_drop]
theorem ino_under : ∃ f, Try.prog.underlying 31 = some (.struct f) := ⟨_, Try.underlying31⟩
theorem ino_size {x : Ino} (h : x.Ok) : (Try.prog.info? 31).map (·.size) = some (inoA x).size := by
  rw [inoA_size h]; kernel_rfl
end Go.Proofs.Ytklnlomleiebaaa
