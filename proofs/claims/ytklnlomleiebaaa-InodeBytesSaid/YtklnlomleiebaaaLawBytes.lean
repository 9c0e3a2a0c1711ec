/- InodeBytes: for every input it returns true and writes nothing that was there. No condition. -/
import Derived.Test.YtklnlomleiebaaaInoX
import Derived.Test.YtklnlomleiebaaaRegE
import Derived.Deep.RegionHeld3
import Derived.Deep.CutBlock
import Derived.Deep.CutRange
import Derived.Test.YtklnlomleiebaaaApp
import Derived.Test.YtklnlomleiebaaaFilS
import Derived.Test.YtklnlomleiebaaaArg
import Derived.OpenShut
import Derived.Test.YtklnlomleiebaaaKnown10
import Derived.Test.YtklnlomleiebaaaWithin9
namespace Go.Proofs.Ytklnlomleiebaaa
set_option linter.unusedVariables false
set_option linter.unusedSimpArgs false
open Go.RowKit
/-- the number of k bytes at a place -/
def numAt (b : List UInt8) (a k : Nat) : Nat := leN ((b.drop a).take k)
theorem numAt_lt (b : List UInt8) (a : Nat) {k : Nat} : numAt b a k < 256 ^ k := by
  have h := leN_lt ((b.drop a).take k)
  have h2 : ((b.drop a).take k).length ≤ k := by rw [List.length_take]; omega
  exact Nat.lt_of_lt_of_le h (Nat.pow_le_pow_right (by omega) h2)
def decI (b : List UInt8) : Ino := ⟨numAt b 0 1, numAt b 2 2, numAt b 4 2, numAt b 8 4, numAt b 12 4, numAt b 16 4, numAt b 24 8, numAt b 32 8, (List.range 6).map (fun j => numAt b (40 + 4 * j) 4), (List.range 9).map (fun j => numAt b (64 + 4 * j) 4)⟩
theorem decI_eq (b : List UInt8) (P : List Nat) : ({ decI b with ptr := P } : Ino) = ⟨numAt b 0 1, numAt b 2 2, numAt b 4 2, numAt b 8 4, numAt b 12 4, numAt b 16 4, numAt b 24 8, numAt b 32 8, [numAt b 40 4, numAt b 44 4, numAt b 48 4, numAt b 52 4, numAt b 56 4, numAt b 60 4], P⟩ := by
  have e : (List.range 6).map (fun j => numAt b (40 + 4 * j) 4) = [numAt b 40 4, numAt b 44 4, numAt b 48 4, numAt b 52 4, numAt b 56 4, numAt b 60 4] := by
    simp [List.range_succ]
  rw [← e]
  rfl
theorem decI_ok (b : List UInt8) : (decI b).Ok := ⟨by simp [decI], by simp [decI]⟩
def brC (v : Value) (a : Nat) : Array Value := #[v, .int .i64 (a : Int)]
section
variable {w : World} {L : List HP} {rb : Nat} {v : Value} {b : List UInt8}
set_option maxRecDepth 100000 in
set_option maxHeartbeats 1000000 in
theorem bget_ok {a k n : Nat} (hk : sizeOk k) (ha : a + k ≤ b.length) (hb : b.length ≤ 1000) (hn : numAt b a k = n) (g : Gives L (RdB v b)) (h : SatL w (cl rb 86 (brC v a) :: L)) :
    Calls Try.prog 30 #[.pointer (some ⟨rb, 0, none⟩), .int .i64 k] w (Ret fun u w' => u = .int .u64 (n : Int) ∧ SatL w' (cl rb 86 (brC v (a + k)) :: L)) := by
  have hd := sat_drew.2 h
  have c0 := SatL.cell hd (i := 0) (v := v) rfl
  have c1 := SatL.cell hd (i := 1) (v := .int .i64 (a : Int)) rfl
  have f1 := SatL.free hd 1
  have hle := le_in hk ha (g _ hd.tail)
  have hkb : 1 ≤ k ∧ k ≤ 8 := by rcases hk with rfl | rfl | rfl | rfl <;> omega
  obtain ⟨va, vc, rfl, _, _⟩ := (g _ hd.tail).valn
  have e : leN ((b.drop a).take k) = n := hn
  rw [e] at hle
  have h2 := SatL.set hd (i := 1) (.int .i64 ((a + k : Nat) : Int))
  have H2 := hid h2
  clear h h2 hd e hn g
  go_enter Try.func30, Try.ntmps30
  go_wp2
  go_region_held3 (fun w' => w'.cell? ⟨rb, 0, none⟩ = some (.slice va b.length vc) ∧ w'.cell? ⟨rb, 1, none⟩ = some (.int .i64 (a : Int)))
    (first | exact ⟨c0, c1⟩ | go_keep)
    (first
      | (go_at_call 43; (with_reducible refine hle.mono ?_); rintro e w2 ⟨rfl, rfl⟩))
  go_wp2
  go_ret
  exact Ret.mk ⟨rfl, H2.out⟩
end
end Go.Proofs.Ytklnlomleiebaaa

namespace Go.Proofs.Ytklnlomleiebaaa
set_option linter.unusedVariables false
set_option linter.unusedSimpArgs false
open Go.RowKit
theorem inoA_at0 (x : Ino) : (inoA x)[0]? = some (.int .i64 x.ty) := by simp [inoA, inoC]
theorem inoA_set0 (x : Ino) (z : Nat) : (inoA x).setIfInBounds 0 (.int .i64 (z : Int)) = inoA { x with ty := z } := by simp [inoA, inoC]
theorem inoA_at1 (x : Ino) : (inoA x)[1]? = some (.int .i64 x.mode) := by simp [inoA, inoC]
theorem inoA_set1 (x : Ino) (z : Nat) : (inoA x).setIfInBounds 1 (.int .i64 (z : Int)) = inoA { x with mode := z } := by simp [inoA, inoC]
theorem inoA_at2 (x : Ino) : (inoA x)[2]? = some (.int .i64 x.nlink) := by simp [inoA, inoC]
theorem inoA_set2 (x : Ino) (z : Nat) : (inoA x).setIfInBounds 2 (.int .i64 (z : Int)) = inoA { x with nlink := z } := by simp [inoA, inoC]
theorem inoA_at3 (x : Ino) : (inoA x)[3]? = some (.int .u32 (x.uid : Int)) := by simp [inoA, inoC]
theorem inoA_set3 (x : Ino) (z : Nat) : (inoA x).setIfInBounds 3 (.int .u32 (z : Int)) = inoA { x with uid := z } := by simp [inoA, inoC]
theorem inoA_at4 (x : Ino) : (inoA x)[4]? = some (.int .u32 (x.gid : Int)) := by simp [inoA, inoC]
theorem inoA_set4 (x : Ino) (z : Nat) : (inoA x).setIfInBounds 4 (.int .u32 (z : Int)) = inoA { x with gid := z } := by simp [inoA, inoC]
theorem inoA_at5 (x : Ino) : (inoA x)[5]? = some (.int .u32 (x.gen : Int)) := by simp [inoA, inoC]
theorem inoA_set5 (x : Ino) (z : Nat) : (inoA x).setIfInBounds 5 (.int .u32 (z : Int)) = inoA { x with gen := z } := by simp [inoA, inoC]
theorem inoA_at7 (x : Ino) : (inoA x)[7]? = some (.int .u64 (x.verf : Int)) := by simp [inoA, inoC]
theorem inoA_set7 (x : Ino) (z : Nat) : (inoA x).setIfInBounds 7 (.int .u64 (z : Int)) = inoA { x with verf := z } := by simp [inoA, inoC]
theorem inoA_tm {x : Ino} (h : x.tm.length = 6) {j : Nat} (hj : j < 6) : (inoA x)[8 + j]? = some (.int .u32 ((x.tm.getD j 0 : Nat) : Int)) := by
  rw [inoA, List.getElem?_toArray, inoC_get, List.getElem?_append_left (by rw [tvs_len, h]; exact hj)]
  simp [tvs, List.getElem?_eq_getElem (show j < x.tm.length by omega), List.getD]
theorem inoA_setT {x : Ino} (h : x.tm.length = 6) {j : Nat} (hj : j < 6) (z : Nat) : (inoA x).setIfInBounds (8 + j) (.int .u32 (z : Int)) = inoA { x with tm := x.tm.set j z } := by
  have e : (inoC x).set (8 + j) (.int .u32 (z : Int)) = inoC { x with tm := x.tm.set j z } := by
    unfold inoC
    rw [List.set_append_right _ _ (by simp), List.set_append_left _ _ (by simp [tvs_len, h]; exact hj)]
    simp [tvs, List.map_set]
  rw [inoA, inoA, ← e, List.setIfInBounds_toArray]
theorem inoA_at8 {x : Ino} (h : x.tm.length = 6) : (inoA x)[8]? = some (.int .u32 ((x.tm.getD 0 0 : Nat) : Int)) := inoA_tm h (j := 0) (by omega)
theorem inoA_set8 {x : Ino} (h : x.tm.length = 6) (z : Nat) : (inoA x).setIfInBounds 8 (.int .u32 (z : Int)) = inoA { x with tm := x.tm.set 0 z } := inoA_setT h (j := 0) (by omega) z
theorem inoA_at9 {x : Ino} (h : x.tm.length = 6) : (inoA x)[9]? = some (.int .u32 ((x.tm.getD 1 0 : Nat) : Int)) := inoA_tm h (j := 1) (by omega)
theorem inoA_set9 {x : Ino} (h : x.tm.length = 6) (z : Nat) : (inoA x).setIfInBounds 9 (.int .u32 (z : Int)) = inoA { x with tm := x.tm.set 1 z } := inoA_setT h (j := 1) (by omega) z
theorem inoA_at10 {x : Ino} (h : x.tm.length = 6) : (inoA x)[10]? = some (.int .u32 ((x.tm.getD 2 0 : Nat) : Int)) := inoA_tm h (j := 2) (by omega)
theorem inoA_set10 {x : Ino} (h : x.tm.length = 6) (z : Nat) : (inoA x).setIfInBounds 10 (.int .u32 (z : Int)) = inoA { x with tm := x.tm.set 2 z } := inoA_setT h (j := 2) (by omega) z
theorem inoA_at11 {x : Ino} (h : x.tm.length = 6) : (inoA x)[11]? = some (.int .u32 ((x.tm.getD 3 0 : Nat) : Int)) := inoA_tm h (j := 3) (by omega)
theorem inoA_set11 {x : Ino} (h : x.tm.length = 6) (z : Nat) : (inoA x).setIfInBounds 11 (.int .u32 (z : Int)) = inoA { x with tm := x.tm.set 3 z } := inoA_setT h (j := 3) (by omega) z
theorem inoA_at12 {x : Ino} (h : x.tm.length = 6) : (inoA x)[12]? = some (.int .u32 ((x.tm.getD 4 0 : Nat) : Int)) := inoA_tm h (j := 4) (by omega)
theorem inoA_set12 {x : Ino} (h : x.tm.length = 6) (z : Nat) : (inoA x).setIfInBounds 12 (.int .u32 (z : Int)) = inoA { x with tm := x.tm.set 4 z } := inoA_setT h (j := 4) (by omega) z
theorem inoA_at13 {x : Ino} (h : x.tm.length = 6) : (inoA x)[13]? = some (.int .u32 ((x.tm.getD 5 0 : Nat) : Int)) := inoA_tm h (j := 5) (by omega)
theorem inoA_set13 {x : Ino} (h : x.tm.length = 6) (z : Nat) : (inoA x).setIfInBounds 13 (.int .u32 (z : Int)) = inoA { x with tm := x.tm.set 5 z } := inoA_setT h (j := 5) (by omega) z
theorem ino_ty (n : Nat) : inoV { ino0 with ty := (n : Int) } = .agg #[.int .i64 (n : Int), .int .i64 0, .int .i64 0, .int .u32 0, .int .u32 0, .int .u32 0, .int .u64 0, .int .u64 0, .int .u32 0, .int .u32 0, .int .u32 0, .int .u32 0, .int .u32 0, .int .u32 0, .int .i64 0, .int .i64 0, .int .i64 0, .int .i64 0, .int .i64 0, .int .i64 0, .int .i64 0, .int .i64 0, .int .i64 0] := rfl
theorem ha0 : Hid (∀ (w : World) (L : List HP), SatL w L → SatL (w.alloc (.cells #[.int .i64 0, .int .i64 0, .int .i64 0, .int .u32 0, .int .u32 0, .int .u32 0, .int .u64 0, .int .u64 0, .int .u32 0, .int .u32 0, .int .u32 0, .int .u32 0, .int .u32 0, .int .u32 0, .int .i64 0, .int .i64 0, .int .i64 0, .int .i64 0, .int .i64 0, .int .i64 0, .int .i64 0, .int .i64 0, .int .i64 0] 31)) (cl w.heap.size 31 (inoA ino0) :: L)) := hid fun w L h => h.alloc _
theorem hsz0 (n : Nat) : Hid ((Try.prog.info? 31).map (·.size) = some (inoA { ino0 with ty := (n : Int) }).size) := hid (ino_size ⟨rfl, rfl⟩)
theorem hsz1 (n : Nat) : Hid ((inoA ino0).size = (inoA { ino0 with ty := (n : Int) }).size) := hid (by rw [inoA_size ino0_ok, inoA_size ⟨rfl, rfl⟩])
def ptrsTo (b : List UInt8) (j : Nat) : List Nat := (List.range j).map (fun i => numAt b (64 + 4 * i) 4) ++ List.replicate (9 - j) 0
theorem ptrsTo_len (b : List UInt8) {j : Nat} (hj : j ≤ 9) : (ptrsTo b j).length = 9 := by simp [ptrsTo]; omega
theorem ptrsTo_end (b : List UInt8) : ptrsTo b 9 = (decI b).ptr := by simp [ptrsTo, decI]
theorem ptrsTo_set (b : List UInt8) {j : Nat} (hj : j < 9) : (ptrsTo b j).set j (numAt b (64 + 4 * j) 4) = ptrsTo b (j + 1) := by
  unfold ptrsTo
  rw [List.set_append_right _ _ (by simp), List.range_succ, List.map_append]
  simp only [List.length_map, List.length_range, Nat.sub_self, List.map_cons, List.map_nil, List.append_assoc]
  congr 1
  rw [show 9 - j = (9 - (j + 1)) + 1 by omega, List.replicate_succ]
  rfl
section
variable {w : World} {L : List HP} {rb : Nat} {v : Value} {b : List UInt8}
theorem bget1 {a n : Nat} (ha : a + 1 ≤ b.length) (hb : b.length ≤ 1000) (hn : numAt b a 1 = n) (g : Gives L (RdB v b)) (h : SatL w (cl rb 86 (brC v a) :: L)) :
    Calls Try.prog 30 #[.pointer (some ⟨rb, 0, none⟩), .int .i64 1] w (Ret fun u w' => u = .int .u64 (n : Int) ∧ SatL w' (cl rb 86 (brC v (a + 1)) :: L)) := bget_ok (k := 1) (.inl rfl) ha hb hn g h
theorem bget2 {a n : Nat} (ha : a + 2 ≤ b.length) (hb : b.length ≤ 1000) (hn : numAt b a 2 = n) (g : Gives L (RdB v b)) (h : SatL w (cl rb 86 (brC v a) :: L)) :
    Calls Try.prog 30 #[.pointer (some ⟨rb, 0, none⟩), .int .i64 2] w (Ret fun u w' => u = .int .u64 (n : Int) ∧ SatL w' (cl rb 86 (brC v (a + 2)) :: L)) := bget_ok (k := 2) (.inr (.inl rfl)) ha hb hn g h
theorem bget4 {a n : Nat} (ha : a + 4 ≤ b.length) (hb : b.length ≤ 1000) (hn : numAt b a 4 = n) (g : Gives L (RdB v b)) (h : SatL w (cl rb 86 (brC v a) :: L)) :
    Calls Try.prog 30 #[.pointer (some ⟨rb, 0, none⟩), .int .i64 4] w (Ret fun u w' => u = .int .u64 (n : Int) ∧ SatL w' (cl rb 86 (brC v (a + 4)) :: L)) := bget_ok (k := 4) (.inr (.inr (.inl rfl))) ha hb hn g h
theorem bget8 {a n : Nat} (ha : a + 8 ≤ b.length) (hb : b.length ≤ 1000) (hn : numAt b a 8 = n) (g : Gives L (RdB v b)) (h : SatL w (cl rb 86 (brC v a) :: L)) :
    Calls Try.prog 30 #[.pointer (some ⟨rb, 0, none⟩), .int .i64 8] w (Ret fun u w' => u = .int .u64 (n : Int) ∧ SatL w' (cl rb 86 (brC v (a + 8)) :: L)) := bget_ok (k := 8) (.inr (.inr (.inr rfl))) ha hb hn g h
set_option maxRecDepth 100000 in
set_option maxHeartbeats 1000000 in
theorem btime_ok {a n m : Nat} (ha : a + 8 ≤ b.length) (hb : b.length ≤ 1000) (hn : numAt b a 4 = n) (hm : numAt b (a + 4) 4 = m) (g : Gives L (RdB v b)) (h : SatL w (cl rb 86 (brC v a) :: L)) :
    Calls Try.prog 31 #[.pointer (some ⟨rb, 0, none⟩)] w (Ret fun u w' => u = .agg #[.int .u32 (n : Int), .int .u32 (m : Int)] ∧ SatL w' (cl rb 86 (brC v (a + 8)) :: L)) := by
  have bn : n < 256 ^ 4 := hn ▸ numAt_lt b a
  have bm : m < 256 ^ 4 := hm ▸ numAt_lt b (a + 4)
  have wn : IntKind.u32.wrap (n : Int) = n := u32_in _ (by omega)
  have wm : IntKind.u32.wrap (m : Int) = m := u32_in _ (by omega)
  have hs := (h.alloc (.cells #[.int .u32 0, .int .u32 0] 28)).swap
  have G : Gives (pt w.heap.size (.cells #[.int .u32 0, .int .u32 0] 28) :: L) (RdB v b) := fun w h => g w h.tail
  have en := hid hn
  have em := hid hm
  have Ha := hid ha
  have Hb := hid hb
  obtain ⟨uf, huf⟩ : ∃ f, Try.prog.underlying 28 = some (.struct f) := ⟨_, Try.underlying28⟩
  clear hn hm ha hb bn bm h g
  have t0 : True := trivial
  go_enter Try.func31, Try.ntmps31
  go_wp2_with (first
    | (have _t := t0; go_at_call 30; (with_reducible refine (bget4 (a := a) (n := n) (by have := Ha.out; omega) Hb.out en.out G hs).mono ?_); clear hs t0; rintro e w1 ⟨v, rfl, rfl, hs⟩; have t1 : True := trivial)
    | (have _t := t1; go_at_call 30; (with_reducible refine (bget4 (a := a + 4) (n := m) (by have := Ha.out; omega) Hb.out em.out G hs).mono ?_); clear hs t1; rintro e w2 ⟨v, rfl, rfl, hs⟩)
    | (refine wpList_storeRow_cl rfl 28 (.tmp 2) (.tmp 11) rfl rfl (cells := #[.int .u32 (n : Int), .int .u32 (m : Int)]) rfl (hs.pull 1) (by kernel_rfl) rfl (by simp [Value.oneCell']) ?_; intro w3 h3))
  refine bodyPost_ret (results_cell_row rfl _ w3 w.heap.size 28 #[.int .u32 (n : Int), .int .u32 (m : Int)] (0, 0) _ rfl h3.heap huf rfl (by kernel_rfl)) rfl (Ret.mk ⟨rfl, ?_⟩)
  exact h3.tail
set_option maxRecDepth 100000 in
set_option maxHeartbeats 8000000 in
theorem decode_ok (hb : b.length = 128) (g : Gives L (RdB v b)) (h : SatL w L) :
    Calls Try.prog 17 #[v] w (Ret fun u w' => u = inoV (decI b) ∧ SatL w' L) := by
  obtain ⟨n0, hn0⟩ : ∃ n, numAt b 0 1 = n := ⟨_, rfl⟩
  have bn0 : n0 < 256 ^ 1 := hn0 ▸ numAt_lt b 0
  have cn0 : IntKind.i64.wrap (n0 : Int) = n0 := IntWalk.i64_in _ (by omega)
  have en0 := hid hn0
  obtain ⟨z0, hz0⟩ : ∃ n, numAt b 1 1 = n := ⟨_, rfl⟩
  have bz0 : z0 < 256 ^ 1 := hz0 ▸ numAt_lt b 1
  have ez0 := hid hz0
  obtain ⟨n1, hn1⟩ : ∃ n, numAt b 2 2 = n := ⟨_, rfl⟩
  have bn1 : n1 < 256 ^ 2 := hn1 ▸ numAt_lt b 2
  have cn1 : IntKind.i64.wrap (n1 : Int) = n1 := IntWalk.i64_in _ (by omega)
  have en1 := hid hn1
  obtain ⟨n2, hn2⟩ : ∃ n, numAt b 4 2 = n := ⟨_, rfl⟩
  have bn2 : n2 < 256 ^ 2 := hn2 ▸ numAt_lt b 4
  have cn2 : IntKind.i64.wrap (n2 : Int) = n2 := IntWalk.i64_in _ (by omega)
  have en2 := hid hn2
  obtain ⟨z1, hz1⟩ : ∃ n, numAt b 6 2 = n := ⟨_, rfl⟩
  have bz1 : z1 < 256 ^ 2 := hz1 ▸ numAt_lt b 6
  have ez1 := hid hz1
  obtain ⟨n3, hn3⟩ : ∃ n, numAt b 8 4 = n := ⟨_, rfl⟩
  have bn3 : n3 < 256 ^ 4 := hn3 ▸ numAt_lt b 8
  have cn3 : IntKind.u32.wrap (n3 : Int) = n3 := u32_in _ (by omega)
  have en3 := hid hn3
  obtain ⟨n4, hn4⟩ : ∃ n, numAt b 12 4 = n := ⟨_, rfl⟩
  have bn4 : n4 < 256 ^ 4 := hn4 ▸ numAt_lt b 12
  have cn4 : IntKind.u32.wrap (n4 : Int) = n4 := u32_in _ (by omega)
  have en4 := hid hn4
  obtain ⟨n5, hn5⟩ : ∃ n, numAt b 16 4 = n := ⟨_, rfl⟩
  have bn5 : n5 < 256 ^ 4 := hn5 ▸ numAt_lt b 16
  have cn5 : IntKind.u32.wrap (n5 : Int) = n5 := u32_in _ (by omega)
  have en5 := hid hn5
  obtain ⟨z2, hz2⟩ : ∃ n, numAt b 20 4 = n := ⟨_, rfl⟩
  have bz2 : z2 < 256 ^ 4 := hz2 ▸ numAt_lt b 20
  have ez2 := hid hz2
  obtain ⟨n6, hn6⟩ : ∃ n, numAt b 24 8 = n := ⟨_, rfl⟩
  have bn6 : n6 < 256 ^ 8 := hn6 ▸ numAt_lt b 24
  have en6 := hid hn6
  obtain ⟨n7, hn7⟩ : ∃ n, numAt b 32 8 = n := ⟨_, rfl⟩
  have bn7 : n7 < 256 ^ 8 := hn7 ▸ numAt_lt b 32
  have en7 := hid hn7
  obtain ⟨m0, hm0⟩ : ∃ n, numAt b 40 4 = n := ⟨_, rfl⟩
  have bm0 : m0 < 256 ^ 4 := hm0 ▸ numAt_lt b 40
  have em0 := hid hm0
  obtain ⟨m1, hm1⟩ : ∃ n, numAt b 44 4 = n := ⟨_, rfl⟩
  have bm1 : m1 < 256 ^ 4 := hm1 ▸ numAt_lt b 44
  have em1 := hid hm1
  obtain ⟨m2, hm2⟩ : ∃ n, numAt b 48 4 = n := ⟨_, rfl⟩
  have bm2 : m2 < 256 ^ 4 := hm2 ▸ numAt_lt b 48
  have em2 := hid hm2
  obtain ⟨m3, hm3⟩ : ∃ n, numAt b 52 4 = n := ⟨_, rfl⟩
  have bm3 : m3 < 256 ^ 4 := hm3 ▸ numAt_lt b 52
  have em3 := hid hm3
  obtain ⟨m4, hm4⟩ : ∃ n, numAt b 56 4 = n := ⟨_, rfl⟩
  have bm4 : m4 < 256 ^ 4 := hm4 ▸ numAt_lt b 56
  have em4 := hid hm4
  obtain ⟨m5, hm5⟩ : ∃ n, numAt b 60 4 = n := ⟨_, rfl⟩
  have bm5 : m5 < 256 ^ 4 := hm5 ▸ numAt_lt b 60
  have em5 := hid hm5
  have hdec : ∀ P, ({ decI b with ptr := P } : Ino) = ⟨n0, n1, n2, n3, n4, n5, n6, n7, [m0, m1, m2, m3, m4, m5], P⟩ := by
    intro P
    rw [decI_eq, hn0, hn1, hn2, hn3, hn4, hn5, hn6, hn7, hm0, hm1, hm2, hm3, hm4, hm5]
  have Hdec := hid hdec
  clear hdec hn0 bn0 hz0 bz0 hn1 bn1 hn2 bn2 hz1 bz1 hn3 bn3 hn4 bn4 hn5 bn5 hz2 bz2 hn6 bn6 hn7 bn7 hm0 bm0 hm1 bm1 hm2 bm2 hm3 bm3 hm4 bm4 hm5 bm5
  obtain ⟨va, vc, hv, _, _⟩ := (g w h).valn
  rw [hb] at hv
  subst hv
  generalize hvv : Value.slice va 128 vc = v at *
  have h1 := h.alloc (.cells (inoA ino0) 31)
  have hs := h1.allocN (n := w.heap.size + 1) (.cells (brC v 0) 86) (by simp)
  have hs : SatL ((w.alloc (.cells #[.int .i64 0, .int .i64 0, .int .i64 0, .int .u32 0, .int .u32 0, .int .u32 0, .int .u64 0, .int .u64 0, .int .u32 0, .int .u32 0, .int .u32 0, .int .u32 0, .int .u32 0, .int .u32 0, .int .i64 0, .int .i64 0, .int .i64 0, .int .i64 0, .int .i64 0, .int .i64 0, .int .i64 0, .int .i64 0, .int .i64 0] 31)).alloc (.cells #[v, .int .i64 0] 86)) (cl (w.heap.size + 1) 86 (brC v 0) :: pt w.heap.size (.cells (inoA ino0) 31) :: L) := hs
  have G0 : ∀ (A B : HP), Gives (A :: B :: L) (RdB v b) := fun A B w h => g w h.tail.tail
  have G1 := hid (G0 (pur True))
  have GA : Gives (pt w.heap.size (.cells (inoA ino0) 31) :: L) (RdB v b) := fun w h => g w h.tail
  have Hb := hid hb
  have Hb2 : Hid (b.length ≤ 1000) := hid (by omega)
  have Hg := hid g
  have HG0 := hid G0
  obtain ⟨uf, huf⟩ := ino_under
  clear h h1 hb g G0 G1
  subst hvv
  have t0 : True := trivial
  go_enter Try.func17, Try.ntmps17
  go_upto_region 10 with (first
    | (have _t := t0; go_at_call 30; (with_reducible refine (bget1 (a := 0) (n := n0) (by have := Hb.out; omega) Hb2.out en0.out GA hs).mono ?_); clear hs t0; rintro e w0 ⟨v, rfl, rfl, hs⟩; have t1 : True := trivial; have T1 : True := trivial)
    | (have _t := T1; refine wpList_storeRow_cl rfl 31 (.tmp 4) (.tmp 12) rfl rfl (ino_ty n0).symm (ha0.out _ _ hs) (hsz0 n0).out (hsz1 n0).out (inoA_one _) ?_; clear hs T1; intro wx hx; have hs := SatL.swap hx; clear hx)
    | (have _t := t1; go_at_call 30; (with_reducible refine (bget1 (a := 1) (n := z0) (by have := Hb.out; omega) Hb2.out ez0.out (HG0.out _ _) hs).mono ?_); clear hs t1; rintro e w1 ⟨v, rfl, rfl, hs⟩; have t2 : True := trivial)
    | (have _t := t2; go_at_call 30; (with_reducible refine (bget2 (a := 2) (n := n1) (by have := Hb.out; omega) Hb2.out en1.out (HG0.out _ _) hs).mono ?_); clear hs t2; rintro e w2 ⟨v, rfl, rfl, hs⟩; have t3 : True := trivial)
    | (have _t := t3; go_at_call 30; (with_reducible refine (bget2 (a := 4) (n := n2) (by have := Hb.out; omega) Hb2.out en2.out (HG0.out _ _) hs).mono ?_); clear hs t3; rintro e w3 ⟨v, rfl, rfl, hs⟩; have t4 : True := trivial; have y1 := SatL.cell (hs.pull 1) (inoA_at1 _); have f1 := SatL.free (hs.pull 1) 1; have hs := (SatL.set (hs.pull 1) (i := 1) (.int .i64 (n1 : Int))).swap; rw [inoA_set1] at hs; have y2 := SatL.cell (hs.pull 1) (inoA_at2 _); have f2 := SatL.free (hs.pull 1) 2; have hs := (SatL.set (hs.pull 1) (i := 2) (.int .i64 (n2 : Int))).swap; rw [inoA_set2] at hs)
    | (have _t := t4; go_at_call 30; (with_reducible refine (bget2 (a := 6) (n := z1) (by have := Hb.out; omega) Hb2.out ez1.out (HG0.out _ _) hs).mono ?_); clear hs t4; rintro e w4 ⟨v, rfl, rfl, hs⟩; have t5 : True := trivial)
    | (have _t := t5; go_at_call 30; (with_reducible refine (bget4 (a := 8) (n := n3) (by have := Hb.out; omega) Hb2.out en3.out (HG0.out _ _) hs).mono ?_); clear hs t5; rintro e w5 ⟨v, rfl, rfl, hs⟩; have t6 : True := trivial)
    | (have _t := t6; go_at_call 30; (with_reducible refine (bget4 (a := 12) (n := n4) (by have := Hb.out; omega) Hb2.out en4.out (HG0.out _ _) hs).mono ?_); clear hs t6; rintro e w6 ⟨v, rfl, rfl, hs⟩; have t7 : True := trivial)
    | (have _t := t7; go_at_call 30; (with_reducible refine (bget4 (a := 16) (n := n5) (by have := Hb.out; omega) Hb2.out en5.out (HG0.out _ _) hs).mono ?_); clear hs t7; rintro e w7 ⟨v, rfl, rfl, hs⟩; have t8 : True := trivial; have y3 := SatL.cell (hs.pull 1) (inoA_at3 _); have f3 := SatL.free (hs.pull 1) 3; have hs := (SatL.set (hs.pull 1) (i := 3) (.int .u32 (n3 : Int))).swap; rw [inoA_set3] at hs; have y4 := SatL.cell (hs.pull 1) (inoA_at4 _); have f4 := SatL.free (hs.pull 1) 4; have hs := (SatL.set (hs.pull 1) (i := 4) (.int .u32 (n4 : Int))).swap; rw [inoA_set4] at hs; have y5 := SatL.cell (hs.pull 1) (inoA_at5 _); have f5 := SatL.free (hs.pull 1) 5; have hs := (SatL.set (hs.pull 1) (i := 5) (.int .u32 (n5 : Int))).swap; rw [inoA_set5] at hs)
    | (have _t := t8; go_at_call 30; (with_reducible refine (bget4 (a := 20) (n := z2) (by have := Hb.out; omega) Hb2.out ez2.out (HG0.out _ _) hs).mono ?_); clear hs t8; rintro e w8 ⟨v, rfl, rfl, hs⟩; have t9 : True := trivial)
    | (have _t := t9; go_at_call 30; (with_reducible refine (bget8 (a := 24) (n := n6) (by have := Hb.out; omega) Hb2.out en6.out (HG0.out _ _) hs).mono ?_); clear hs t9; rintro e w9 ⟨v, rfl, rfl, hs⟩; have t10 : True := trivial)
    | (have _t := t10; go_at_call 30; (with_reducible refine (bget8 (a := 32) (n := n7) (by have := Hb.out; omega) Hb2.out en7.out (HG0.out _ _) hs).mono ?_); clear hs t10; rintro e w10 ⟨v, rfl, rfl, hs⟩; have t11 : True := trivial; have y6 := SatL.cell (hs.pull 1) (inoA_at6 _); have f6 := SatL.free (hs.pull 1) 6; have hs := (SatL.set (hs.pull 1) (i := 6) (.int .u64 (n6 : Int))).swap; rw [inoA_set6] at hs; have y7 := SatL.cell (hs.pull 1) (inoA_at7 _); have f7 := SatL.free (hs.pull 1) 7; have hs := (SatL.set (hs.pull 1) (i := 7) (.int .u64 (n7 : Int))).swap; rw [inoA_set7] at hs)
    | (have _t := t11; go_at_call 31; (with_reducible refine (btime_ok (a := 40) (n := m0) (m := m1) (by have := Hb.out; omega) Hb2.out em0.out em1.out (HG0.out _ _) hs).mono ?_); clear hs t11; rintro e w11 ⟨v, rfl, rfl, hs⟩; have t12 : True := trivial)
    | (have _t := t12; go_at_call 31; (with_reducible refine (btime_ok (a := 48) (n := m2) (m := m3) (by have := Hb.out; omega) Hb2.out em2.out em3.out (HG0.out _ _) hs).mono ?_); clear hs t12; rintro e w12 ⟨v, rfl, rfl, hs⟩; have t13 : True := trivial)
    | (have _t := t13; go_at_call 31; (with_reducible refine (btime_ok (a := 56) (n := m4) (m := m5) (by have := Hb.out; omega) Hb2.out em4.out em5.out (HG0.out _ _) hs).mono ?_); clear hs t13; rintro e w13 ⟨v, rfl, rfl, hs⟩; have t14 : True := trivial; have y8 := SatL.cell (hs.pull 1) (inoA_at8 rfl); have f8 := SatL.free (hs.pull 1) 8; have hs := (SatL.set (hs.pull 1) (i := 8) (.int .u32 (m0 : Int))).swap; rw [inoA_set8 rfl] at hs; have y9 := SatL.cell (hs.pull 1) (inoA_at9 rfl); have f9 := SatL.free (hs.pull 1) 9; have hs := (SatL.set (hs.pull 1) (i := 9) (.int .u32 (m1 : Int))).swap; rw [inoA_set9 rfl] at hs; have y10 := SatL.cell (hs.pull 1) (inoA_at10 rfl); have f10 := SatL.free (hs.pull 1) 10; have hs := (SatL.set (hs.pull 1) (i := 10) (.int .u32 (m2 : Int))).swap; rw [inoA_set10 rfl] at hs; have y11 := SatL.cell (hs.pull 1) (inoA_at11 rfl); have f11 := SatL.free (hs.pull 1) 11; have hs := (SatL.set (hs.pull 1) (i := 11) (.int .u32 (m3 : Int))).swap; rw [inoA_set11 rfl] at hs; have y12 := SatL.cell (hs.pull 1) (inoA_at12 rfl); have f12 := SatL.free (hs.pull 1) 12; have hs := (SatL.set (hs.pull 1) (i := 12) (.int .u32 (m4 : Int))).swap; rw [inoA_set12 rfl] at hs; have y13 := SatL.cell (hs.pull 1) (inoA_at13 rfl); have f13 := SatL.free (hs.pull 1) 13; have hs := (SatL.set (hs.pull 1) (i := 13) (.int .u32 (m5 : Int))).swap; rw [inoA_set13 rfl] at hs))
  obtain ⟨xb, hxb⟩ : ∃ xb, xb = w0.heap.size := ⟨_, rfl⟩
  rw [← hxb] at hs ⊢
  have Hxb := hid hxb
  obtain ⟨rb, hrb⟩ : ∃ rb, rb = w.heap.size + 1 := ⟨_, rfl⟩
  rw [← hrb] at hs
  have Hrb := hid hrb
  have Hs := hid hs
  clear hxb hrb hs y1 f1 y2 f2 y3 f3 y4 f4 y5 f5 y6 f6 y7 f7 y8 f8 y9 f9 y10 f10 y11 f11 y12 f12 y13 f13
  go_wp2
  rw [← Hrb.out]
  go_loopw [54] (fun v54 wr => ∃ j : Nat, j ≤ 9 ∧ v54 = .int .i64 (j : Int) ∧ SatL wr (cl rb 86 (brC (.slice va 128 vc) (64 + 4 * j)) :: cl xb 31 (inoA ⟨n0, n1, n2, n3, n4, n5, n6, n7, [m0, m1, m2, m3, m4, m5], ptrsTo b j⟩) :: cl w.heap.size 31 (inoA ino0) :: L)) (fun v54 _ => 9 - (intOf v54).toNat)
  case atStart => exact ⟨0, by omega, rfl, Hs.out⟩
  case round =>
    obtain ⟨j, hj, rfl, hs⟩ := hrel
    have hxo : (⟨n0, n1, n2, n3, n4, n5, n6, n7, [m0, m1, m2, m3, m4, m5], ptrsTo b j⟩ : Ino).Ok := ⟨rfl, ptrsTo_len b hj⟩
    by_cases hlt : j < 9
    · obtain ⟨n, hn⟩ : ∃ n, numAt b (64 + 4 * j) 4 = n := ⟨_, rfl⟩
      have bn : n < 256 ^ 4 := hn ▸ numAt_lt b (64 + 4 * j)
      have wn : IntKind.i64.wrap (n : Int) = n := IntWalk.i64_in _ (by omega)
      have hget := hid (bget4 (a := 64 + 4 * j) (n := n) (by have := Hb.out; omega) Hb2.out hn (HG0.out _ _) hs)
      have hst := hid (ptrsTo_set b hlt)
      rw [hn] at hst
      have Hn := hid hn
      have Hxo := hid hxo
      clear hn bn hs hxo
      go_wp2_with (go_at_call 30; (with_reducible refine hget.out.mono ?_); rintro e w9 ⟨v, rfl, rfl, h9⟩; have y9 := SatL.cell (h9.pull 1) (inoA_ptr Hxo.out hlt); have f9 := SatL.free (h9.pull 1) (14 + j); have h10 := SatL.set (h9.pull 1) (i := 14 + j) (.int .i64 (n : Int)); rw [inoA_setP Hxo.out] at h10; have H10 := hid h10; clear h10 h9)
      go_roundw
      case rel => exact ⟨j + 1, by omega, by go_num, by rw [← hst.out]; exact H10.out.swap⟩
      case measure => simp [intOf]; omega
    · obtain ⟨uf, huf⟩ := ino_under
      have hj9 : j = 9 := by omega
      have hX := hid (show inoV ⟨n0, n1, n2, n3, n4, n5, n6, n7, [m0, m1, m2, m3, m4, m5], ptrsTo b j⟩ = inoV (decI b) by rw [← Hdec.out, hj9, ptrsTo_end])
      have hlt2 : ¬ (j : Int) < 9 := by omega
      have Hs2 := hid hs
      have Hlt := hid hlt
      have e1 := hid (ino_size hxo)
      have e2 : Hid ((inoA ino0).size = (inoA ⟨n0, n1, n2, n3, n4, n5, n6, n7, [m0, m1, m2, m3, m4, m5], ptrsTo b j⟩).size) := hid (by rw [inoA_size ino0_ok, inoA_size hxo])
      clear hs hj9 hj hlt hxo
      go_wp2_with (first
        | (refine wpList_loadRow_cl rfl 31 (.tmp 4) rfl rfl (Hs2.out.pull 1) huf rfl e1.out ?_)
        | (refine wpList_storeRow_cl rfl 31 (.tmp 2) (.tmp 64) rfl rfl rfl (Hs2.out.pull 2) e1.out e2.out (inoA_one _) ?_; intro w9 h9))
      refine bodyPost_ret (results_cell_row rfl _ w9 w.heap.size 31 _ (0, 0) _ rfl h9.heap huf rfl e1.out) rfl (Ret.mk ⟨hX.out, ?_⟩)
      exact h9.tail.tail.tail
end
end Go.Proofs.Ytklnlomleiebaaa

namespace Go.Proofs.Ytklnlomleiebaaa
set_option linter.unusedVariables false
set_option linter.unusedSimpArgs false
open Go.RowKit
structure Ino.Fit (x : Ino) : Prop where
  ok : x.Ok
  ty : 0 ≤ x.ty ∧ x.ty ≤ 255
  mode : 0 ≤ x.mode ∧ x.mode ≤ 65535
  nlink : 0 ≤ x.nlink ∧ x.nlink ≤ 65535
  uid : x.uid < 4294967296
  gid : x.gid < 4294967296
  gen : x.gen < 4294967296
  size : x.size < 18446744073709551616
  verf : x.verf < 18446744073709551616
  tm : ∀ t ∈ x.tm, t < 4294967296
  ptr : ∀ p ∈ x.ptr, p < 4294967296
def encA (x : Ino) : List UInt8 := [byteOf x.ty.toNat, 0] ++ [x.mode.toNat, x.nlink.toNat, 0].flatMap (lowb 2) ++ [x.uid, x.gid, x.gen, 0].flatMap (lowb 4) ++ [x.size, x.verf].flatMap (lowb 8)
def encI (x : Ino) : List UInt8 := encA x ++ rowB x.tm ++ rowB x.ptr ++ List.replicate 28 0
theorem encA_len (x : Ino) : (encA x).length = 40 := by simp [encA, lowb_len]
theorem encI_len {x : Ino} (h : x.Ok) : (encI x).length = 128 := by simp [encI, encA_len, rowB_len, h.tm, h.ptr]
theorem numAt_mid {A B : List UInt8} {k v a : Nat} (ha : A.length = a) : numAt (A ++ (lowb k v ++ B)) a k = v % 256 ^ k := by
  unfold numAt
  rw [← ha, List.drop_left, List.take_append_of_le_length (by rw [lowb_len]; omega), List.take_of_length_le (by rw [lowb_len]; omega), leN_lowb]
theorem numAt_row {A B : List UInt8} {l : List Nat} {a j : Nat} (ha : A.length = a) (hj : j < l.length) (h : ∀ p ∈ l, p < 4294967296) : numAt (A ++ (rowB l ++ B)) (a + 4 * j) 4 = l.getD j 0 := by
  have := ptrN_rowB l j hj h
  unfold ptrN at this
  unfold numAt
  rw [← ha, List.drop_append, List.drop_of_length_le (by omega), List.nil_append, Nat.add_sub_cancel_left, List.drop_append_of_le_length (by rw [rowB_len]; omega), List.take_append_of_le_length (by rw [List.length_drop, rowB_len]; omega), this]
theorem list_getD_range {l : List Nat} {n : Nat} (h : l.length = n) : (List.range n).map (fun j => l.getD j 0) = l := by
  apply List.ext_getElem
  · simp [h]
  · intro i h1 h2
    simp [List.getD, List.getElem?_eq_getElem h2]
theorem decI_encI {x : Ino} (h : x.Fit) : decI (encI x) = x := by
  obtain ⟨⟨htm, hptr⟩, h0, h1, h2, h3, h4, h5, h6, h7, h8, h9⟩ := h
  have e0 : numAt (encI x) 0 1 = x.ty.toNat := by
    have := numAt_mid (A := []) (B := [0] ++ ([x.mode.toNat, x.nlink.toNat, 0].flatMap (lowb 2) ++ ([x.uid, x.gid, x.gen, 0].flatMap (lowb 4) ++ ([x.size, x.verf].flatMap (lowb 8) ++ (rowB x.tm ++ (rowB x.ptr ++ List.replicate 28 0)))))) (k := 1) (v := x.ty.toNat) (a := 0) rfl
    have e : encI x = [] ++ (lowb 1 x.ty.toNat ++ ([0] ++ ([x.mode.toNat, x.nlink.toNat, 0].flatMap (lowb 2) ++ ([x.uid, x.gid, x.gen, 0].flatMap (lowb 4) ++ ([x.size, x.verf].flatMap (lowb 8) ++ (rowB x.tm ++ (rowB x.ptr ++ List.replicate 28 0))))))) := by simp [encI, encA, lowb]
    rw [e, this]; omega
  have e1 : numAt (encI x) 2 2 = x.mode.toNat := by
    have e : encI x = [byteOf x.ty.toNat, 0] ++ (lowb 2 x.mode.toNat ++ (lowb 2 x.nlink.toNat ++ (lowb 2 0 ++ ([x.uid, x.gid, x.gen, 0].flatMap (lowb 4) ++ ([x.size, x.verf].flatMap (lowb 8) ++ (rowB x.tm ++ (rowB x.ptr ++ List.replicate 28 0))))))) := by simp [encI, encA]
    rw [e, numAt_mid (a := 2) rfl]; omega
  have e2 : numAt (encI x) 4 2 = x.nlink.toNat := by
    have e : encI x = ([byteOf x.ty.toNat, 0] ++ lowb 2 x.mode.toNat) ++ (lowb 2 x.nlink.toNat ++ (lowb 2 0 ++ ([x.uid, x.gid, x.gen, 0].flatMap (lowb 4) ++ ([x.size, x.verf].flatMap (lowb 8) ++ (rowB x.tm ++ (rowB x.ptr ++ List.replicate 28 0)))))) := by simp [encI, encA]
    rw [e, numAt_mid (by simp [lowb_len])]; omega
  have e3 : numAt (encI x) 8 4 = x.uid := by
    have e : encI x = ([byteOf x.ty.toNat, 0] ++ [x.mode.toNat, x.nlink.toNat, 0].flatMap (lowb 2)) ++ (lowb 4 x.uid ++ (lowb 4 x.gid ++ (lowb 4 x.gen ++ (lowb 4 0 ++ ([x.size, x.verf].flatMap (lowb 8) ++ (rowB x.tm ++ (rowB x.ptr ++ List.replicate 28 0))))))) := by simp [encI, encA]
    rw [e, numAt_mid (by simp [lowb_len])]; omega
  have e4 : numAt (encI x) 12 4 = x.gid := by
    have e : encI x = ([byteOf x.ty.toNat, 0] ++ [x.mode.toNat, x.nlink.toNat, 0].flatMap (lowb 2) ++ lowb 4 x.uid) ++ (lowb 4 x.gid ++ (lowb 4 x.gen ++ (lowb 4 0 ++ ([x.size, x.verf].flatMap (lowb 8) ++ (rowB x.tm ++ (rowB x.ptr ++ List.replicate 28 0)))))) := by simp [encI, encA]
    rw [e, numAt_mid (by simp [lowb_len])]; omega
  have e5 : numAt (encI x) 16 4 = x.gen := by
    have e : encI x = ([byteOf x.ty.toNat, 0] ++ [x.mode.toNat, x.nlink.toNat, 0].flatMap (lowb 2) ++ lowb 4 x.uid ++ lowb 4 x.gid) ++ (lowb 4 x.gen ++ (lowb 4 0 ++ ([x.size, x.verf].flatMap (lowb 8) ++ (rowB x.tm ++ (rowB x.ptr ++ List.replicate 28 0))))) := by simp [encI, encA]
    rw [e, numAt_mid (by simp [lowb_len])]; omega
  have e6 : numAt (encI x) 24 8 = x.size := by
    have e : encI x = ([byteOf x.ty.toNat, 0] ++ [x.mode.toNat, x.nlink.toNat, 0].flatMap (lowb 2) ++ [x.uid, x.gid, x.gen, 0].flatMap (lowb 4)) ++ (lowb 8 x.size ++ (lowb 8 x.verf ++ (rowB x.tm ++ (rowB x.ptr ++ List.replicate 28 0)))) := by simp [encI, encA]
    rw [e, numAt_mid (by simp [lowb_len])]; omega
  have e7 : numAt (encI x) 32 8 = x.verf := by
    have e : encI x = ([byteOf x.ty.toNat, 0] ++ [x.mode.toNat, x.nlink.toNat, 0].flatMap (lowb 2) ++ [x.uid, x.gid, x.gen, 0].flatMap (lowb 4) ++ lowb 8 x.size) ++ (lowb 8 x.verf ++ (rowB x.tm ++ (rowB x.ptr ++ List.replicate 28 0))) := by simp [encI, encA]
    rw [e, numAt_mid (by simp [lowb_len])]; omega
  have e8 : (List.range 6).map (fun j => numAt (encI x) (40 + 4 * j) 4) = x.tm := by
    rw [← list_getD_range htm]
    refine List.map_congr_left fun j hj => ?_
    rw [encI, List.append_assoc, List.append_assoc, numAt_row (encA_len x) (by rw [htm]; simpa using hj) h8]
  have e9 : (List.range 9).map (fun j => numAt (encI x) (64 + 4 * j) 4) = x.ptr := by
    rw [← list_getD_range hptr]
    refine List.map_congr_left fun j hj => ?_
    rw [encI, List.append_assoc, numAt_row (by rw [List.length_append, encA_len, rowB_len, htm]) (by rw [hptr]; simpa using hj) h9]
  unfold decI
  rw [e0, e1, e2, e3, e4, e5, e6, e7, e8, e9]
  obtain ⟨ty, mode, nlink, uid, gid, gen, size, verf, tm, ptr⟩ := x
  simp only at h0 h1 h2 ⊢
  rw [Int.toNat_of_nonneg h0.1, Int.toNat_of_nonneg h1.1, Int.toNat_of_nonneg h2.1]
theorem rowB_take {l : List Nat} {m : Nat} (hm : m < l.length) : rowB (l.take (m + 1)) = rowB (l.take m) ++ lowb 4 (l.getD m 0) := by
  have e : l.take (m + 1) = l.take m ++ [l.getD m 0] := by
    rw [List.take_add_one, List.getElem?_eq_getElem hm]
    simp [List.getD, hm]
  rw [e, rowB_snoc]
section
variable {w : World} {L : List HP}
theorem SlB.gives1 (P : HP) (T : Nat) (v : Value) (b : List UInt8) (L : List HP) : Gives (P :: SlB T v b :: L) (RdB v b) := fun w' h' => SlB.rd h'.swap
theorem SlB.gives2 (P Q : HP) (T : Nat) (v : Value) (b : List UInt8) (L : List HP) : Gives (P :: Q :: SlB T v b :: L) (RdB v b) := fun w' h' => SlB.rd h'.tail.tail
theorem putle2 {v vu : Value} {bs : List UInt8} {us : List Nat} (hf : ∀ u ∈ us, u < 65536) (hb : bs.length + us.length * 8 ≤ 1000000000) (h : SatL w L) (gb : Gives L (RdB v bs)) (gu : Gives L (RdU vu us)) :
    Calls Try.prog 32 #[v, .int .i64 2, vu] w (Ret (PutPost 5 L (bs ++ us.flatMap (lowb 2)))) :=
  putle_ok (k := 2) (.inr (.inl rfl)) (fun i hi => by
    rw [List.getD_eq_getElem?_getD, List.getElem?_eq_getElem hi, Option.getD_some]
    exact hf _ (List.getElem_mem hi)) hb h gb gu
theorem putle8 {v vu : Value} {bs : List UInt8} {us : List Nat} (hf : ∀ u ∈ us, u < 18446744073709551616) (hb : bs.length + us.length * 8 ≤ 1000000000) (h : SatL w L) (gb : Gives L (RdB v bs)) (gu : Gives L (RdU vu us)) :
    Calls Try.prog 32 #[v, .int .i64 8, vu] w (Ret (PutPost 5 L (bs ++ us.flatMap (lowb 8)))) :=
  putle_ok (k := 8) (.inr (.inr (.inr rfl))) (fun i hi => by
    rw [List.getD_eq_getElem?_getD, List.getElem?_eq_getElem hi, Option.getD_some]
    exact hf _ (List.getElem_mem hi)) hb h gb gu
theorem wpList_index_run {P : Program} {w : World} {v : Value} {ops : Array Oper} {rest : List Oper} {o : Oper} {a : Act} {Q : Exit → Act → World → Prop} (hgd : o.guard = none) (t : TypeId) (x y : Operand) (ho : o.op = .index t x y)
    (hr : (Instr.index t (a.eval x) (a.eval y)).run P w = .ok v w) (K : wpList P ops Q rest (a.put o.dst v) w) : wpList P ops Q (o :: rest) a w :=
  wpList_plain hgd fun _ hK => by
    unfold Oper.wp execOp
    simp only [ho, Sem.run_bind, Sem.run_pure, hr, Result.andThen_ok]
    exact hK _ _ K
theorem list9 {l : List Nat} (h : l.length = 9) : ∃ a b c d e f g i j, l = [a, b, c, d, e, f, g, i, j] := by
  match l, h with
  | [a, b, c, d, e, f, g, i, j], _ => exact ⟨a, b, c, d, e, f, g, i, j, rfl⟩
theorem list6 {l : List Nat} (h : l.length = 6) : ∃ a b c d e f, l = [a, b, c, d, e, f] := by
  match l, h with
  | [a, b, c, d, e, f], _ => exact ⟨a, b, c, d, e, f, rfl⟩
theorem run_index_pvs {l : List Nat} (h : l.length = 9) {j : Nat} (hj : j < 9) (w : World) : (Instr.index 29 (.agg (pvs l).toArray) (.int .i64 (j : Int))).run Try.prog w = .ok (.int .i64 ((l.getD j 0 : Nat) : Int)) w := by
  obtain ⟨a0, a1, a2, a3, a4, a5, a6, a7, a8, rfl⟩ := list9 h
  obtain rfl | rfl | rfl | rfl | rfl | rfl | rfl | rfl | rfl : j = 0 ∨ j = 1 ∨ j = 2 ∨ j = 3 ∨ j = 4 ∨ j = 5 ∨ j = 6 ∨ j = 7 ∨ j = 8 := by omega
  all_goals kernel_rfl
theorem range_ptr {b : Nat} {x : Ino} (h : SatL w (cl b 31 (inoA x) :: L)) (hx : x.Ok) : w.rangeAt b 14 (pvs x.ptr) := by
  intro j v hv
  have hj : j < 9 := by
    have := (List.getElem?_eq_some_iff.1 hv).1
    rw [pvs_len, hx.ptr] at this
    exact this
  rw [pvs_get (by rw [hx.ptr]; exact hj)] at hv
  cases hv
  exact SatL.cell h (inoA_ptr hx hj)
theorem arr9 : ∃ d, Try.prog.underlying 29 = some d ∧ d.isRow = true ∧ (Try.prog.info? 29).map (·.size) = some 9 := ⟨_, Try.underlying29, rfl, by kernel_rfl⟩
set_option maxRecDepth 100000 in
set_option maxHeartbeats 4000000 in
theorem fits_ok {x : Ino} (hx : x.Fit) (h : SatL w L) :
    Calls Try.prog 18 #[inoV x] w (Ret fun u w' => u = .bool true ∧ SatL w' L) := by
  obtain ⟨hok, h0, h1, h2, _, _, _, _, _, _, h9⟩ := hx
  have hs := h.alloc (.cells (inoA x) 31)
  have c0 := SatL.cell hs (inoA_at0 _)
  have c1 := SatL.cell hs (inoA_at1 _)
  have c2 := SatL.cell hs (inoA_at2 _)
  have hrg := hid (range_ptr hs hok)
  obtain ⟨d9, u9, r9, i9⟩ := arr9
  have hi9 := hid (show (Try.prog.info? 29).map (·.size) = some (pvs x.ptr).length by rw [pvs_len, hok.ptr]; exact i9)
  have hidx := hid (fun j (hj : j < 9) => run_index_pvs hok.ptr hj)
  have hpl : ∀ j, j < 9 → x.ptr.getD j 0 < 4294967296 := fun j hj => h9 _ (by rw [List.getD_eq_getElem?_getD, List.getElem?_eq_getElem (by rw [hok.ptr]; exact hj), Option.getD_some]; exact List.getElem_mem _)
  have Hpl := hid hpl
  obtain ⟨y0, hy0⟩ : ∃ y, y = x.ty := ⟨_, rfl⟩
  obtain ⟨y1, hy1⟩ : ∃ y, y = x.mode := ⟨_, rfl⟩
  obtain ⟨y2, hy2⟩ : ∃ y, y = x.nlink := ⟨_, rfl⟩
  rw [← hy0] at c0 h0
  rw [← hy1] at c1 h1
  rw [← hy2] at c2 h2
  have H0 := hid h0
  have n1 : ¬ y0 < 0 := by omega
  have n2 : ¬ 255 < y0 := by omega
  have n3 : ¬ y1 < 0 := by omega
  have n4 : ¬ 65535 < y1 := by omega
  have n5 : ¬ y2 < 0 := by omega
  have n6 : ¬ 65535 < y2 := by omega
  have Hs := hid hs
  clear hy0 hy1 hy2 hpl hs h9 i9 h0 h1 h2 h H0
  unfold inoV
  generalize hX : inoA x = XA at *
  clear hX
  generalize pvs x.ptr = pv at *
  go_enter Try.func18, Try.ntmps18
  go_wp2_with (refine wpList_load_mid rfl 29 (.tmp 33) rfl w.heap.size 14 rfl pv _ hrg.out u9 r9 hi9.out ?_)
  go_loopw [35] (fun v35 wr => ∃ j : Nat, j ≤ 9 ∧ v35 = .int .i64 (j : Int) ∧ SatL wr L) (fun v35 _ => 9 - (intOf v35).toNat)
  case atStart => exact ⟨0, by omega, rfl, Hs.out.tail⟩
  case round =>
    obtain ⟨j, hj, rfl, hr⟩ := hrel
    have Hr := hid hr
    clear hr
    by_cases hlt : j < 9
    · have hp := Hpl.out j hlt
      have hix := hid (hidx.out j hlt)
      generalize x.ptr.getD j 0 = p at *
      have m1 : ¬ (p : Int) < 0 := by omega
      have m2 : ¬ (4294967295 : Int) < p := by omega
      go_wp2_with (refine wpList_index_run rfl 29 (.tmp 34) (.tmp 35) rfl (hix.out _) ?_)
      go_roundw
      case rel => exact ⟨j + 1, by omega, by go_num, Hr.out⟩
      case measure => simp [intOf]; omega
    · have hlt2 : ¬ (j : Int) < 9 := by omega
      go_wp2
      go_ret
      exact Ret.mk ⟨rfl, Hr.out⟩
set_option maxRecDepth 100000 in
set_option maxHeartbeats 8000000 in
theorem encode_ino {x : Ino} (hx : x.Fit) (h : SatL w L) :
    Calls Try.prog 19 #[inoV x] w (Ret fun u w' => SatL w' (SlB 5 u (encI x) :: L)) := by
  obtain ⟨⟨htm, hptr⟩, h0, h1, h2, h3, h4, h5, h6, h7, h8, h9⟩ := hx
  obtain ⟨ty, mode, nlink, uid, gid, gen, size, verf, tm, ptr⟩ := x
  obtain ⟨ty, rfl⟩ := Int.eq_ofNat_of_zero_le h0.1
  obtain ⟨mode, rfl⟩ := Int.eq_ofNat_of_zero_le h1.1
  obtain ⟨nlink, rfl⟩ := Int.eq_ofNat_of_zero_le h2.1
  simp only at htm hptr h0 h1 h2 h3 h4 h5 h6 h7 h8 h9
  have hs := h.alloc (.cells (inoA ⟨ty, mode, nlink, uid, gid, gen, size, verf, tm, ptr⟩) 31)
  have hok : (⟨ty, mode, nlink, uid, gid, gen, size, verf, tm, ptr⟩ : Ino).Ok := ⟨htm, hptr⟩
  have c0 := SatL.cell hs (inoA_at0 _)
  have c1 := SatL.cell hs (inoA_at1 _)
  have c2 := SatL.cell hs (inoA_at2 _)
  simp only at c0 c1 c2
  have w0 : IntKind.u8.wrap (ty : Int) = (byteOf ty).toNat := byte_cast ty
  have w1 : IntKind.u64.wrap (mode : Int) = mode := u64_in _ (by omega)
  have w2 : IntKind.u64.wrap (nlink : Int) = nlink := u64_in _ (by omega)
  have Hs := hid hs
  unfold inoV
  generalize hX : inoA ⟨ty, mode, nlink, uid, gid, gen, size, verf, tm, ptr⟩ = XA at *
  have HX := hid hX
  have wu : IntKind.u64.wrap (uid : Int) = uid := u64_in _ (by omega)
  have wg : IntKind.u64.wrap (gid : Int) = gid := u64_in _ (by omega)
  have we : IntKind.u64.wrap (gen : Int) = gen := u64_in _ (by omega)
  have k1 := hs.allocN (n := w.heap.size + 1) (.cells #[.int .u8 ((byteOf ty).toNat : Nat), .int .u8 0] 5) (by simp)
  have d1 := SatL.cell (k1.pull 1) (i := 1) (by rw [← HX.out]; exact inoA_at1 _)
  have d2 := SatL.cell (k1.pull 1) (i := 2) (by rw [← HX.out]; exact inoA_at2 _)
  simp only at d1 d2
  have k2 := hid (k1.allocN (n := w.heap.size + 2) (.cells #[.int .u64 (mode : Int), .int .u64 (nlink : Int), .int .u64 0] 22) (by simp))
  have p1 := hid (putle2 (v := .slice (some ⟨w.heap.size + 1, 0, none⟩) 2 2) (vu := .slice (some ⟨w.heap.size + 2, 0, none⟩) 3 3) (bs := [byteOf ty, 0]) (us := [mode, nlink, 0]) (by intro u hu; simp at hu; omega) (by simp) k2.out
    (fun w' h' => RdB.ofPt h'.swap rfl rfl (by omega) (by omega)) (fun w' h' => RdU.ofCl h' rfl rfl (by omega) (by omega)))
  have t0 : True := trivial
  obtain ⟨a0, a1, a2, a3, a4, a5, rfl⟩ := list6 htm
  have b8 := h8
  simp only [List.mem_cons, List.not_mem_nil, or_false, forall_eq_or_imp, forall_eq] at b8
  obtain ⟨q0, q1, q2, q3, q4, q5⟩ := b8
  have H8 := hid h8
  have H9 := hid h9
  have hg4 : ∀ (b : Nat) (L : List HP) (l : List Nat) (cs : Array Value) (T : Nat), cs = (l.map u64v).toArray → l.length ≤ 100 → Gives (pt b (.cells cs T (0, 0)) :: L) (RdU (.slice (some ⟨b, 0, none⟩) l.length l.length) l) := fun b L l cs T hc hl w' h' => RdU.ofCl h' hc rfl (by omega) (by omega)
  have Hg4 := hid hg4
  have B1 : [byteOf ty, 0] ++ [mode, nlink, 0].flatMap (lowb 2) = [byteOf ty, 0] ++ [mode, nlink, 0].flatMap (lowb 2) := rfl
  obtain ⟨E1, hE1⟩ : ∃ E, E = [byteOf ty, 0] ++ [mode, nlink, 0].flatMap (lowb 2) := ⟨_, rfl⟩
  obtain ⟨E2, hE2⟩ : ∃ E, E = E1 ++ [uid, gid, gen, 0].flatMap (lowb 4) := ⟨_, rfl⟩
  obtain ⟨E3, hE3⟩ : ∃ E, E = E2 ++ [size, verf].flatMap (lowb 8) := ⟨_, rfl⟩
  have l1 : E1.length = 8 := by rw [hE1]; simp [lowb_len]
  have l2 : E2.length = 24 := by rw [hE2]; simp [lowb_len, l1]
  have l3 : E3.length = 40 := by rw [hE3]; simp [lowb_len, l2]
  rw [← hE1] at p1
  have HE : Hid (E3 = encA ⟨ty, mode, nlink, uid, gid, gen, size, verf, [a0, a1, a2, a3, a4, a5], ptr⟩) := hid (by rw [hE3, hE2, hE1]; rfl)
  have HE2 := hid hE2
  have HE3 := hid hE3
  have L1 := hid l1
  have L2 := hid l2
  have L3 := hid l3
  have Hr4 := hid (And.intro h3 (And.intro h4 (And.intro h5 (And.intro h6 h7))))
  have Hok := hid hok
  have Hq := hid (And.intro q0 (And.intro q1 (And.intro q2 (And.intro q3 (And.intro q4 q5)))))
  have Hptr := hid hptr
  clear hE1 hE2 hE3 l1 l2 l3 B1 hg4 h8 h9 h0 h1 h2 h3 h4 h5 h6 h7 hok hptr htm hs k1 h hX k2 q0 q1 q2 q3 q4 q5
  go_enter Try.func19, Try.ntmps19
  go_upto_region 4 with (first
    | (have _t := t0; go_at_call 32; (with_reducible refine p1.out.mono ?_); clear t0; rintro e w6 ⟨_, rfl, v6, rfl, g6⟩; have g6 := (g6.bring [1, 2]).tail.tail; have c3 := SatL.cell (g6.pull 1) (i := 3) (by rw [← HX.out]; exact inoA_at3 _); have c4 := SatL.cell (g6.pull 1) (i := 4) (by rw [← HX.out]; exact inoA_at4 _); have c5 := SatL.cell (g6.pull 1) (i := 5) (by rw [← HX.out]; exact inoA_at5 _); simp only at c3 c4 c5; have t1 : True := trivial; have G6 := hid g6; clear g6)
    | (have _t := t1; go_at_call 32; have al := G6.out.alloc (.cells #[.int .u64 (uid : Int), .int .u64 (gid : Int), .int .u64 (gen : Int), .int .u64 0] 22); have hc := putle4 (vu := .slice (some ⟨w6.heap.size, 0, none⟩) 4 4) (bs := E1) (us := [uid, gid, gen, 0]) (by have := Hr4.out; intro u hu; simp at hu; omega) (by have := L1.out; simp; omega) al (SlB.gives1 _ _ _ _ _) (Hg4.out _ _ [uid, gid, gen, 0] _ _ rfl (by simp)); (with_reducible refine hc.mono ?_); clear t1 hc; rintro e w7 ⟨_, rfl, v7, rfl, g7⟩; have g7 := (g7.bring [1, 2]).tail.tail; rw [← HE2.out] at g7; have c6 := SatL.cell (g7.pull 1) (i := 6) (by rw [← HX.out]; exact inoA_at6 _); have c7 := SatL.cell (g7.pull 1) (i := 7) (by rw [← HX.out]; exact inoA_at7 _); simp only at c6 c7; have t2 : True := trivial; have G7 := hid g7; clear g7 al)
    | (have _t := t2; go_at_call 32; have al := G7.out.alloc (.cells #[.int .u64 (size : Int), .int .u64 (verf : Int)] 22); have hc := putle8 (vu := .slice (some ⟨w7.heap.size, 0, none⟩) 2 2) (bs := E2) (us := [size, verf]) (by have := Hr4.out; intro u hu; simp at hu; omega) (by have := L2.out; simp; omega) al (SlB.gives1 _ _ _ _ _) (Hg4.out _ _ [size, verf] _ _ rfl (by simp)); (with_reducible refine hc.mono ?_); clear t2 hc; rintro e w8 ⟨_, rfl, v8, rfl, g8⟩; have g8 := (g8.bring [1, 2]).tail.tail; rw [← HE3.out] at g8; have t3 : True := trivial; have G8 := hid g8; clear g8 al))
  have c8 : w8.cell? ⟨w.heap.size, 8, none⟩ = some (.int .u32 (a0 : Int)) := SatL.cell (G8.out.pull 1) (i := 8) (by rw [← HX.out]; exact inoA_at8 rfl)
  have c9 : w8.cell? ⟨w.heap.size, 9, none⟩ = some (.int .u32 (a1 : Int)) := SatL.cell (G8.out.pull 1) (i := 9) (by rw [← HX.out]; exact inoA_at9 rfl)
  have c10 : w8.cell? ⟨w.heap.size, 10, none⟩ = some (.int .u32 (a2 : Int)) := SatL.cell (G8.out.pull 1) (i := 10) (by rw [← HX.out]; exact inoA_at10 rfl)
  have c11 : w8.cell? ⟨w.heap.size, 11, none⟩ = some (.int .u32 (a3 : Int)) := SatL.cell (G8.out.pull 1) (i := 11) (by rw [← HX.out]; exact inoA_at11 rfl)
  have c12 : w8.cell? ⟨w.heap.size, 12, none⟩ = some (.int .u32 (a4 : Int)) := SatL.cell (G8.out.pull 1) (i := 12) (by rw [← HX.out]; exact inoA_at12 rfl)
  have c13 : w8.cell? ⟨w.heap.size, 13, none⟩ = some (.int .u32 (a5 : Int)) := SatL.cell (G8.out.pull 1) (i := 13) (by rw [← HX.out]; exact inoA_at13 rfl)
  have gt := hid (G8.out.alloc (.cells #[.int .u32 (a0 : Int), .int .u32 (a1 : Int), .int .u32 (a2 : Int), .int .u32 (a3 : Int), .int .u32 (a4 : Int), .int .u32 (a5 : Int)] 28))
  clear c0 c1 c2 c3 c4 c5 c6 c7 d1 d2 w0 w1 w2 wu wg we t3
  have wt0 : IntKind.u64.wrap (a0 : Int) = a0 := u64_in _ (by have := Hq.out; omega)
  have wt1 : IntKind.u64.wrap (a1 : Int) = a1 := u64_in _ (by have := Hq.out; omega)
  have wt2 : IntKind.u64.wrap (a2 : Int) = a2 := u64_in _ (by have := Hq.out; omega)
  have wt3 : IntKind.u64.wrap (a3 : Int) = a3 := u64_in _ (by have := Hq.out; omega)
  have wt4 : IntKind.u64.wrap (a4 : Int) = a4 := u64_in _ (by have := Hq.out; omega)
  have wt5 : IntKind.u64.wrap (a5 : Int) = a5 := u64_in _ (by have := Hq.out; omega)
  go_wp2
  clear c8 c9 c10 c11 c12 c13
  generalize w8.heap.size = tb at *
  obtain ⟨T, hT⟩ : ∃ T : List Nat, T = [a0, a1, a2, a3, a4, a5] := ⟨_, rfl⟩
  have gt2 : Hid (SatL ((w8.alloc (.cells #[.int .u32 (a0 : Int), .int .u32 (a1 : Int), .int .u32 (a2 : Int), .int .u32 (a3 : Int), .int .u32 (a4 : Int), .int .u32 (a5 : Int)] 28))) (cl tb 28 (tvs T).toArray :: SlB 5 v8 E3 :: cl w.heap.size 31 XA :: L)) := hid (by rw [hT]; exact gt.out)
  have hTl : T.length = 6 := by rw [hT]; rfl
  rw [← hT] at HX H8 HE Hok
  have HTl := hid hTl
  have HTe := hid hT
  have ext0 : E3 = E3 ++ rowB (T.take (2 * 0)) := by simp [rowB]
  have Ext0 := hid ext0
  clear hT gt Hq wt0 wt1 wt2 wt3 wt4 wt5 ext0
  go_loopw [3, 57] (fun v3 v57 wr => ∃ j : Nat, j ≤ 3 ∧ v57 = .int .i64 (j : Int) ∧ SatL wr (SlB 5 v3 (E3 ++ rowB (T.take (2 * j))) :: cl tb 28 (tvs T).toArray :: cl w.heap.size 31 XA :: L)) (fun _ v57 _ => 3 - (intOf v57).toNat)
  case atStart => exact ⟨0, by omega, rfl, by rw [← Ext0.out]; exact gt2.out.swap⟩
  case round =>
    obtain ⟨j, hj, rfl, hs⟩ := hrel
    by_cases hlt : j < 3
    · obtain ⟨x, hx⟩ : ∃ x, x = T.getD (2 * j) 0 := ⟨_, rfl⟩
      obtain ⟨y, hy⟩ : ∃ y, y = T.getD (2 * j + 1) 0 := ⟨_, rfl⟩
      have tv : ∀ k, k < 6 → (tvs T).toArray[k]? = some (.int .u32 ((T.getD k 0 : Nat) : Int)) := fun k hk => by
        rw [List.getElem?_toArray]
        simp [tvs, List.getElem?_eq_getElem (show k < T.length by omega), List.getD]
      have hb : ∀ k, k < 6 → T.getD k 0 < 4294967296 := fun k hk => H8.out _ (by rw [List.getD_eq_getElem?_getD, List.getElem?_eq_getElem (by omega), Option.getD_some]; exact List.getElem_mem _)
      have cx := SatL.cell (hs.pull 1) (tv (2 * j) (by omega))
      have cy := SatL.cell (hs.pull 1) (tv (2 * j + 1) (by omega))
      have bx := hb (2 * j) (by omega)
      have by_ := hb (2 * j + 1) (by omega)
      rw [← hx] at cx bx
      rw [← hy] at cy by_
      have hgrow : rowB (T.take (2 * j)) ++ [x, y].flatMap (lowb 4) = rowB (T.take (2 * (j + 1))) := by
        rw [show 2 * (j + 1) = 2 * j + 1 + 1 by omega, rowB_take (show 2 * j + 1 < T.length by omega), rowB_take (show 2 * j < T.length by omega), hx, hy]
        simp
      have hlen : (E3 ++ rowB (T.take (2 * j))).length ≤ 100 := by
        rw [List.length_append, rowB_len, List.length_take, L3.out]; omega
      have wx : IntKind.u64.wrap (x : Int) = x := u64_in _ (by omega)
      have wy : IntKind.u64.wrap (y : Int) = y := u64_in _ (by omega)
      have ej : j * 2 = 2 * j := by omega
      rw [← ej] at cx cy
      have Hs := hid hs
      have Hx := hid (And.intro bx by_)
      have Hgrow := hid hgrow
      have Hlen := hid hlen
      have hlti : (j : Int) < 3 := by omega
      clear hs hx hy tv hb bx by_ hgrow hlen ej
      have al1 := Hs.out.alloc (.cells #[.int .u32 (x : Int), .int .u32 (y : Int)] 28)
      have al2 := al1.allocN (n := wr.heap.size + 1) (.cells #[.int .u64 (x : Int), .int .u64 (y : Int)] 22) (by simp)
      have hc := hid (putle4 (vu := .slice (some ⟨wr.heap.size + 1, 0, none⟩) 2 2) (us := [x, y]) (by have := Hx.out; intro u hu; simp at hu; omega) (by have := Hlen.out; simp only [List.length_cons, List.length_nil]; omega) al2 (SlB.gives2 _ _ _ _ _ _) (Hg4.out _ _ [x, y] _ _ rfl (by simp)))
      clear al1 al2
      go_wp2_with (go_at_call 32; (with_reducible refine hc.out.mono ?_); rintro e w9 ⟨_, rfl, v9, rfl, g9⟩; have G9 := hid (g9.bring [1, 2, 3]).tail.tail.tail; clear g9 hc)
      go_roundw
      case rel => exact ⟨j + 1, by omega, by go_num, by have h := G9.out; rw [List.append_assoc, Hgrow.out] at h; exact h⟩
      case measure => simp [intOf]; omega
    · have hj3 : j = 3 := by omega
      have hlti : ¬ (j : Int) < 3 := by omega
      have eT : T.take (2 * j) = T := List.take_of_length_le (by omega)
      rw [eT] at hs
      obtain ⟨E4, hE4⟩ : ∃ E, E = E3 ++ rowB T := ⟨_, rfl⟩
      have l4 : E4.length = 64 := by rw [hE4, List.length_append, L3.out, rowB_len, hTl]
      rw [← hE4] at hs
      have hcl := hs.pull 2
      rw [← HX.out] at hcl
      have hrg := hid (range_ptr hcl Hok.out)
      obtain ⟨d9, u9, r9, i9⟩ := arr9
      have hi9 := hid (show (Try.prog.info? 29).map (·.size) = some (pvs ptr).length by rw [pvs_len, Hptr.out]; exact i9)
      have hidx := hid (fun j (hj : j < 9) => run_index_pvs Hptr.out hj)
      have Hs := hid hs
      have HE4 := hid hE4
      have L4 := hid l4
      clear hs hE4 l4 hcl i9 hj3 hj hlt eT
      generalize hpv : pvs ptr = pv at *
      have Hpv := hid hpv
      clear hpv
      go_wp2_with (refine wpList_load_mid rfl 29 (.tmp 74) rfl w.heap.size 14 rfl pv _ hrg.out u9 r9 hi9.out ?_)
      clear hrg u9 r9 hi9
      have ext0 : Hid (E4 = E4 ++ rowB (ptr.take 0)) := hid (by simp [rowB])
      go_loopw [3, 76] (fun v3 v76 wr => ∃ k : Nat, k ≤ 9 ∧ v76 = .int .i64 (k : Int) ∧ SatL wr (SlB 5 v3 (E4 ++ rowB (ptr.take k)) :: cl tb 28 (tvs T).toArray :: cl w.heap.size 31 XA :: L)) (fun _ v76 _ => 9 - (intOf v76).toNat)
      case atStart => exact ⟨0, by omega, rfl, by rw [← ext0.out]; exact Hs.out⟩
      case round =>
        clear Hs
        obtain ⟨k, hk, rfl, hs⟩ := hrel
        by_cases hlt : k < 9
        · have hp : ptr.getD k 0 < 4294967296 := H9.out _ (by rw [List.getD_eq_getElem?_getD, List.getElem?_eq_getElem (by rw [Hptr.out]; exact hlt), Option.getD_some]; exact List.getElem_mem _)
          have hix := hid (hidx.out k hlt)
          have hgrow := hid (rowB_take (l := ptr) (m := k) (by rw [Hptr.out]; exact hlt))
          have hlen : (E4 ++ rowB (ptr.take k)).length ≤ 100 := by rw [List.length_append, rowB_len, List.length_take, L4.out]; omega
          have al := hs.alloc (.cells #[.int .u64 ((ptr.getD k 0 : Nat) : Int)] 22)
          have hc := hid (putle4 (vu := .slice (some ⟨wr.heap.size, 0, none⟩) 1 1) (us := [ptr.getD k 0]) (by simpa using hp) (by simp only [List.length_cons, List.length_nil]; omega) al (SlB.gives1 _ _ _ _ _) (Hg4.out _ _ [ptr.getD k 0] _ _ rfl (by simp)))
          have hgr2 := hid (show (E4 ++ rowB (ptr.take k)) ++ [ptr.getD k 0].flatMap (lowb 4) = E4 ++ rowB (ptr.take (k + 1)) by rw [hgrow.out]; simp)
          have wp : IntKind.u64.wrap ((ptr.getD k 0 : Nat) : Int) = (ptr.getD k 0 : Nat) := u64_in _ (by omega)
          generalize ptr.getD k 0 = p at *
          have Hp := hid hp
          have hki : (k : Int) < 9 := by omega
          clear hs hgrow hlen al hp
          go_wp2_with (first
            | (refine wpList_index_run rfl 29 (.tmp 75) (.tmp 76) rfl (hix.out _) ?_)
            | (go_at_call 32; (with_reducible refine hc.out.mono ?_); rintro e w9 ⟨_, rfl, v9, rfl, g9⟩; have G9 := hid (g9.bring [1, 2]).tail.tail; clear g9 hc))
          go_roundw
          case rel => exact ⟨k + 1, by omega, by go_num, by rw [← hgr2.out]; exact G9.out⟩
          case measure => simp [intOf]; omega
        · have hki : ¬ (k : Int) < 9 := by omega
          have eP : ptr.take k = ptr := List.take_of_length_le (by rw [Hptr.out]; omega)
          rw [eP] at hs
          obtain ⟨E5, hE5⟩ : ∃ E, E = E4 ++ rowB ptr := ⟨_, rfl⟩
          have l5 : E5.length = 100 := by rw [hE5, List.length_append, L4.out, rowB_len, Hptr.out]
          rw [← hE5] at hs
          obtain ⟨sa, sc, rfl, hc1, hc2⟩ := Sl.valn hs (m := 100) (by rw [bvs_len, l5])
          have hfin : Hid (E5 ++ List.replicate 28 0 = encI ⟨ty, mode, nlink, uid, gid, gen, size, verf, T, ptr⟩) := hid (by rw [hE5, HE4.out, HE.out]; rfl)
          have hbz : Hid (bvs E5 ++ List.replicate 28 (.int .u8 0) = bvs (E5 ++ List.replicate 28 0)) := hid (by rw [bvs_append, bvs_zeros])
          have b8 : 0 < 1 := by omega
          have hb4 : ((bvs E5).length + 28) * 1 ≤ 140737488355328 := by rw [bvs_len, l5]; omega
          have Hs := hid hs
          clear hs hE5 l5 eP hk hlt
          go_wp2_with (at_builtin; refine wpList_appendz_sl rfl (.tmp 88) (.tmp 91) rfl elem_byte Try.underlying3 rfl Hs.out (m := 28) rfl b8 hb4 ?_; intro v9 w9 h9)
          go_ret
          rw [hbz.out, hfin.out] at h9
          rw [HTe.out] at h9
          exact Ret.mk (h9.bring [1, 2]).tail.tail
end
end Go.Proofs.Ytklnlomleiebaaa

namespace Go.Proofs.Ytklnlomleiebaaa
set_option linter.unusedVariables false
set_option linter.unusedSimpArgs false
open Go.RowKit
def loadI (s : Vs) (tb k : Nat) : Ino := decI (((s.D (tb + k / 4)).drop (k % 4 * 128)).take 128)
def saveS (s : Vs) (tb k : Nat) (x : Ino) : Vs := s.put (tb + k / 4) (patch (s.D (tb + k / 4)) (k % 4 * 128) (encI x))
theorem patch_get {d x : List UInt8} {off : Nat} (h : off + x.length ≤ d.length) : ((patch d off x).drop off).take x.length = x := by
  unfold patch
  have e : (d.take off).length = off := by rw [List.length_take]; omega
  rw [List.append_assoc, List.drop_append, List.drop_of_length_le (by omega), List.nil_append, e, Nat.sub_self, List.drop_zero, List.take_left]
theorem patch_other {d x : List UInt8} {off o n : Nat} (h : off + x.length ≤ d.length) (hd : o + n ≤ off ∨ off + x.length ≤ o) : ((patch d off x).drop o).take n = (d.drop o).take n := by
  apply List.ext_getElem?
  intro j
  have e : (d.take off).length = off := by rw [List.length_take]; omega
  rw [List.getElem?_take, List.getElem?_take]
  split
  · rename_i hj
    rw [List.getElem?_drop, List.getElem?_drop]
    unfold patch
    rcases hd with hd | hd
    · rw [List.append_assoc, List.getElem?_append_left (by omega), List.getElem?_take, if_pos (by omega)]
    · rw [List.getElem?_append_right (by rw [List.length_append]; omega), List.getElem?_drop, List.length_append, e]
      congr 1
      omega
  · rfl
theorem loadI_save {s : Vs} {tb k : Nat} {x : Ino} (hx : x.Fit) (hd : (s.D (tb + k / 4)).length = 512) : loadI (saveS s tb k x) tb k = x := by
  unfold loadI saveS
  rw [Vs.put_D]
  have hl := encI_len hx.ok
  have := patch_get (d := s.D (tb + k / 4)) (x := encI x) (off := k % 4 * 128) (by omega)
  rw [hl] at this
  rw [this, decI_encI hx]
theorem loadI_save_ne {s : Vs} {tb k j : Nat} {x : Ino} (hx : x.Fit) (hd : (s.D (tb + k / 4)).length = 512) (hj : j ≠ k) : loadI (saveS s tb k x) tb j = loadI s tb j := by
  unfold loadI saveS
  have hl := encI_len hx.ok
  by_cases e : j / 4 = k / 4
  · rw [e, Vs.put_D, patch_other (by omega) (by omega)]
  · rw [Vs.put_D_ne _ _ (by omega)]
theorem loadI_ok (s : Vs) (tb k : Nat) : (loadI s tb k).Ok := decI_ok _
theorem wpList_loadRow_G {P : Program} {w : World} {l : List HP} {T : Nat} {ops : Array Oper} {rest : List Oper} {o : Oper} {a : Act} {Q : Exit → Act → World → Prop} (hw : Region.wanted o (yielded ops a.tmps) = true) (ty : TypeId) (x : Operand) (ho : o.op = .load ty x)
    {b : Nat} {cs : Array Value} (hx : a.eval x = .pointer (some ⟨b, 0, none⟩)) (h : SatL w (cl b T cs :: l)) {d : TypeDesc} (hu : P.underlying ty = some d)
    (hd : (match d with | .struct _ | .array _ _ => true | _ => false) = true) (hi : (P.info? ty).map (·.size) = some cs.size)
    (K : wpList P ops Q rest (a.put o.dst (.agg cs)) w) : wpList P ops Q (o :: rest) a w :=
  wpList_step fun _ hK => by
    rw [if_pos hw]
    exact wp_load_row ty x ho b hx T cs (0, 0) d h.heap hu hd hi (hK _ _ K)
theorem field_sup6 (b i t d : Int) (w : World) : (Instr.field 68 (.agg #[.int .i64 b, .int .i64 i, .int .i64 1, .int .i64 2, .int .i64 68, .int .i64 69, .int .i64 t, .int .i64 d]) 6).run Try.prog w = .ok (.int .i64 t) w := by kernel_rfl
theorem field_sup1 (b i t d : Int) (w : World) : (Instr.field 68 (.agg #[.int .i64 b, .int .i64 i, .int .i64 1, .int .i64 2, .int .i64 68, .int .i64 69, .int .i64 t, .int .i64 d]) 1).run Try.prog w = .ok (.int .i64 i) w := by kernel_rfl
section
variable {w : World} {L : List HP} {vb b i : Nat} {s : Vs}
set_option maxHeartbeats 1000000 in
theorem fil_super (h : SatL w (FilR vb b i s :: L)) :
    Calls Try.prog 27 #[.pointer (some ⟨vb, 0, none⟩)] w (Ret fun v w' => v = planV b i (tableN b) (dataN b i) ∧ SatL w' (FilR vb b i s :: L)) := by
  obtain ⟨puts, mb, rows, hP, hs⟩ := sat_FilR.1 h
  obtain ⟨m, h1⟩ := sat_ViewR.1 hs
  have hr : ∀ j v, (viewCells m mb rows.length i (tableN b) (dataN b i))[j]? = some v → (w.alloc (.cells #[.int .i64 0, .int .i64 0, .int .i64 0, .int .i64 0, .int .i64 0, .int .i64 0, .int .i64 0, .int .i64 0] 68)).cell? ⟨vb, j, none⟩ = some v := fun j v hj => SatL.cell (SatL.pull (h1.alloc (.cells #[.int .i64 0, .int .i64 0, .int .i64 0, .int .i64 0, .int .i64 0, .int .i64 0, .int .i64 0, .int .i64 0] 68)) 1 : SatL _ (cl _ _ _ :: _)) hj
  have c1 := hr 1 _ rfl
  have c2 := hr 2 _ rfl
  have c3 := hr 3 _ rfl
  have c4 := hr 4 _ rfl
  have c5 := hr 5 _ rfl
  have c6 := hr 6 _ rfl
  have c7 := hr 7 _ rfl
  have c8 := hr 8 _ rfl
  rw [hP.2.1.1] at c1
  have hfin := SatL.tail (h.alloc (.cells #[.int .i64 b, .int .i64 i, .int .i64 1, .int .i64 2, .int .i64 68, .int .i64 69, .int .i64 (tableN b), .int .i64 (dataN b i)] 68))
  clear hr h1 hs hP h
  generalize tableN b = tb at *
  generalize dataN b i = dt at *
  go_enter Try.func27, Try.ntmps27
  go_wp2
  refine bodyPost_ret (v := planV b i tb dt) (by simp [results, Try.results27, go_sem, planV]) rfl (Ret.mk ⟨rfl, ?_⟩)
  exact hfin
set_option maxRecDepth 100000 in
set_option maxHeartbeats 1000000 in
theorem place_ok {k : Nat} (hk : 1 ≤ k ∧ k < i) (h : SatL w (FilR vb b i s :: L)) :
    Calls Try.prog 15 #[.pointer (some ⟨vb, 0, none⟩), .int .i64 k] w (Ret fun v w' => v = .tuple #[.int .i64 (tableN b + k / 4 : Nat), .int .i64 (k % 4 * 128 : Nat), .bool true] ∧ SatL w' (FilR vb b i s :: L)) := by
  obtain ⟨n1, n2, n3, n4, n5, n6⟩ := FilR.nat h
  have hsu := fun (w : World) (h : SatL w (FilR vb b i s :: L)) => fil_super h
  have e1 : ((tableN b + k / 4 : Nat) : Int) = tableN b + (k : Int) / 4 := by omega
  have e2 : ((k % 4 * 128 : Nat) : Int) = (k : Int) % 4 * 128 := by omega
  rw [e1, e2]
  have Hsu := hid hsu
  have hki : (1 : Int) ≤ k := by omega
  have hkj : (k : Int) < i := by omega
  have n7 : tableN b ≤ 65536 := by omega
  clear e1 e2 hsu n2 n3 n4
  unfold planV at Hsu
  generalize dataN b i = dt at *
  generalize tableN b = tb at *
  have f6 := field_sup6 b i tb dt
  have f1 := field_sup1 b i tb dt
  have t0 : True := trivial
  go_enter Try.func15, Try.ntmps15
  go_wp2_with (first
    | (have _t := t0; go_at_call 27; (with_reducible refine (Hsu.out _ h).mono ?_); rintro e w1 ⟨v, rfl, rfl, h1⟩; clear t0; have t1 : True := trivial)
    | (have _t := t1; go_at_call 27; (with_reducible refine (Hsu.out _ h1).mono ?_); rintro e w2 ⟨v, rfl, rfl, h2⟩))
  go_ret3
  exact Ret.mk ⟨rfl, h2⟩
theorem gives_sub {T : Nat} {v : Value} {d : List UInt8} {b0 off n c : Nat} (hv : v = .slice (some ⟨b0, off, none⟩) n c) {i j : Nat} (hij : i ≤ j) (hj : j ≤ d.length) : Gives (SlB T v d :: L) (RdB (.slice (some ⟨b0, off + i, none⟩) (j - i) (c - i)) ((d.take j).drop i)) := fun w' h' => by
  subst hv
  exact RdB.sub (SlB.rd h') hij hj
set_option maxRecDepth 100000 in
set_option maxHeartbeats 2000000 in
theorem load_ok {k : Nat} (hk : 1 ≤ k ∧ k < i) (h : SatL w (FilR vb b i s :: L)) :
    Calls Try.prog 10 #[.pointer (some ⟨vb, 0, none⟩), .int .i64 k] w (Ret fun v w' => v = .tuple #[inoV (loadI s (tableN b) k), .nilIface] ∧ SatL w' (FilR vb b i s :: L)) := by
  obtain ⟨n1, n2, n3, n4, n5, n6⟩ := FilR.nat h
  have ht : tableN b + k / 4 < dataN b i := by unfold dataN; have hg := (FilR.good h).1; unfold planGood at hg; omega
  have h1 := (ha0.out _ _ h).swap
  have hpl := hid (place_ok hk h1)
  have hlen := hid (FilR.len h1 (k := tableN b + k / 4) (by omega) (by omega))
  have hget := hid (fun (w : World) (L : List HP) (h : SatL w (FilR vb b i s :: L)) => fil_get (k := tableN b + k / 4) h (by omega) (by omega))
  have hR : Hid (loadI s (tableN b) k = decI (((s.D (tableN b + k / 4)).drop (k % 4 * 128)).take 128)) := hid rfl
  have ho : k % 4 * 128 ≤ 384 := by omega
  have hpl2 := hid (fun (w : World) (L : List HP) (v : Value) (d : List UInt8) (hb : d.length = 128) (g : Gives L (RdB v d)) (h : SatL w L) => decode_ok hb g h)
  obtain ⟨uf, huf⟩ := ino_under
  have hz : Hid (∀ (o : Nat) (d : List UInt8), ((d.take (o + 128)).drop o) = (d.drop o).take 128) := hid fun o d => by rw [List.drop_take, Nat.add_sub_cancel_left]
  have Hex := hid (loadI_ok s (tableN b) k)
  clear h h1 ht hk n1 n2 n3 n4
  generalize tableN b + k / 4 = at_ at *
  generalize k % 4 * 128 = o at *
  generalize loadI s (tableN b) k = X at *
  generalize s.D at_ = D at *
  have e1 : IntKind.i64.wrap ((o : Int) + 128) = o + 128 := IntWalk.i64_in _ (by omega)
  have hoi : (o : Int) ≤ 384 := by omega
  have hoi2 : (o : Int) + 128 ≤ 512 := by omega
  have hoi3 : (o : Int) ≤ o + 128 := by omega
  go_enter Try.func10, Try.ntmps10
  go_wp2_with (first
    | (go_at_call 15; (with_reducible refine hpl.out.mono ?_); rintro e w1 ⟨v, rfl, rfl, h1⟩)
    | (go_at_call 16; (with_reducible refine (hget.out _ _ h1).mono ?_); rintro e w2 ⟨v, rfl, dv, rfl, h2⟩; obtain ⟨da, dc, rfl, dc1, dc2⟩ := Sl.valn h2 (m := 512) (by rw [bvs_len, hlen.out]); obtain ⟨db, do_, rfl⟩ := Sl.addr h2 (by omega); have hno : ¬ dc = o := (by omega); have hon : o + 128 ≤ dc := (by omega); have honi : (o : Int) + 128 ≤ dc := (by omega); have g := gives_sub (L := FilR vb b i s :: pt w.heap.size (.cells (inoA ino0) 31) :: L) (T := 5) (d := D) (b0 := db) (off := do_) (n := 512) (c := dc) rfl (i := o) (j := o + 128) (by omega) (by rw [hlen.out]; omega); rw [hz.out, Nat.add_sub_cancel_left] at g; have hdc := hid (hpl2.out _ _ _ _ (by rw [List.length_take, List.length_drop, hlen.out]; omega) g h2); rw [← hR.out] at hdc)
    | (go_at_call 17; (with_reducible refine hdc.out.mono ?_); rintro e w3 ⟨v, rfl, rfl, h3⟩)
    | (refine wpList_storeRow_cl rfl 31 (.tmp 4) (.tmp 37) rfl rfl rfl (h3.pull 2) (ino_size Hex.out) (by rw [inoA_size ino0_ok, inoA_size Hex.out]) (inoA_one _) ?_; intro w4 h4))
  refine bodyPost_ret (results_cell_cl rfl rfl h4 huf rfl (ino_size Hex.out)) rfl (Ret.mk ⟨rfl, ?_⟩)
  exact h4.tail.tail
set_option maxRecDepth 100000 in
set_option maxHeartbeats 4000000 in
theorem save_ok {k : Nat} {x : Ino} (hx : x.Fit) (hk : 1 ≤ k ∧ k < i) (h : SatL w (FilR vb b i s :: L)) :
    Calls Try.prog 11 #[.pointer (some ⟨vb, 0, none⟩), .int .i64 k, inoV x] w (Ret fun v w' => v = .nilIface ∧ SatL w' (FilR vb b i (saveS s (tableN b) k x) :: L)) := by
  obtain ⟨n1, n2, n3, n4, n5, n6⟩ := FilR.nat h
  have ht : tableN b + k / 4 < dataN b i := by unfold dataN; have hg := (FilR.good h).1; unfold planGood at hg; omega
  have h1 := (h.alloc (.cells (inoA x) 31)).swap
  have hpl := hid (place_ok hk h1)
  have hlen := hid (FilR.len h1 (k := tableN b + k / 4) (by omega) (by omega))
  have hget := hid (fun (w : World) (L : List HP) (h : SatL w (FilR vb b i s :: L)) => fil_get (k := tableN b + k / 4) h (by omega) (by omega))
  have hput := hid (fun (w : World) (L : List HP) (dv : Value) (d : List UInt8) (hd : d.length = 512) (h : SatL w (SlB 5 dv d :: FilR vb b i s :: L)) => fil_put (k := tableN b + k / 4) h (by omega) (by omega) hd)
  have hR : Hid (saveS s (tableN b) k x = s.put (tableN b + k / 4) (patch (s.D (tableN b + k / 4)) (k % 4 * 128) (encI x))) := hid rfl
  have ho : k % 4 * 128 ≤ 384 := by omega
  have hel := hid (encI_len hx.ok)
  have Hx := hid hx
  have hft := hid (fun (w : World) (L : List HP) (h : SatL w L) => fits_ok hx h)
  have hen := hid (fun (w : World) (L : List HP) (h : SatL w L) => encode_ino hx h)
  obtain ⟨uf, huf⟩ := ino_under
  clear h ht hk n1 n2 n3 n4 hx
  generalize tableN b + k / 4 = at_ at *
  generalize k % 4 * 128 = o at *
  generalize saveS s (tableN b) k x = S2 at *
  generalize hDD : s.D at_ = D at *
  have hoi : (o : Int) ≤ 512 := by omega
  have hon : o ≤ 512 := by omega
  have H1 := hid h1
  have hisz := hid (ino_size Hx.out.ok)
  have hione := hid (inoA_one x)
  unfold inoV at hft hen ⊢
  generalize hXA : inoA x = XA at *
  clear h1
  go_enter Try.func11, Try.ntmps11
  go_wp2_with (first
    | (go_at_call 15; (with_reducible refine hpl.out.mono ?_); rintro e w1 ⟨v, rfl, rfl, h1⟩)
    | (refine wpList_loadRow_G (by rfl) 31 (.tmp 5) rfl rfl (h1.pull 1) huf rfl hisz.out ?_)
    | (go_at_call 18; (with_reducible refine (hft.out _ _ h1).mono ?_); rintro e w2 ⟨v, rfl, rfl, h2⟩)
    | (go_at_call 16; (with_reducible refine (hget.out _ _ h2).mono ?_); rintro e w3 ⟨v, rfl, dv, rfl, h3⟩; obtain ⟨da, dc, rfl, dc1, dc2⟩ := Sl.valn h3 (m := 512) (by rw [bvs_len, hlen.out]); obtain ⟨db, do_, rfl⟩ := Sl.addr h3 (by omega); have hno : ¬ dc = o := (by omega)))
  have h5 := sat_drew.2 h3
  have S0 : (loadVar 31 ⟨w.heap.size, 0, none⟩).run Try.prog w3.drew = .ok (.agg XA) w3.drew := run_loadVar_row _ _ _ _ XA (0, 0) _ (h5.pull 2).heap huf rfl hisz.out
  have H5 := hid h5
  have hel2 := hel.out
  have him : o + 128 ≤ 512 := by omega
  clear h1 h2 h3 h5 hDD
  refine GoE.start (fun w' => (loadVar 31 ⟨w.heap.size, 0, none⟩).run Try.prog w' = .ok (.agg XA) w') 5 6 rfl (by kernel_rfl) ?_
  refine GoE.take (i := 0) (v := ?_) rfl (by decide) (by kernel_rfl) (by kernel_rfl) (by kernel_rfl) (by kernel_rfl) (fun _ _ _ h => h) (by rfl) ?_ (by assumption) ?_
  rotate_left
  · intro w hSw; (try dsimp only at hSw); go_simp; try (with_reducible rfl)
  try simp only [Act.put, List.setIfInBounds_toArray, List.set_cons_zero, List.set_cons_succ]
  refine GoE.take (i := 1) (v := ?_) rfl (by decide) (by kernel_rfl) (by kernel_rfl) (by kernel_rfl) (by kernel_rfl) (fun _ _ _ h => h) (by rfl) ?_ (by assumption) ?_
  rotate_left
  · intro w hSw; (try dsimp only at hSw); go_simp; try (with_reducible rfl)
  try simp only [Act.put, List.setIfInBounds_toArray, List.set_cons_zero, List.set_cons_succ]
  refine GoE.take (i := 2) (v := ?_) rfl (by decide) (by kernel_rfl) (by kernel_rfl) (by kernel_rfl) (by kernel_rfl) (fun _ _ _ h => h) (by rfl) ?_ (by assumption) ?_
  rotate_left
  · intro w hSw; (try dsimp only at hSw); go_simp; try (with_reducible rfl)
  try simp only [Act.put, List.setIfInBounds_toArray, List.set_cons_zero, List.set_cons_succ]
  refine GoE.take (i := 3) (v := .agg XA) rfl (by decide) (by kernel_rfl) (by kernel_rfl) (by kernel_rfl) (by kernel_rfl) (fun _ _ _ h => h) (by rfl) ?_ (by assumption) ?_
  · intro w' hSw
    have e : ((loadVar 31 ⟨w.heap.size, 0, none⟩).run Try.prog w').andThen (fun a w' => Result.ok (Next.value a) w') = Result.ok (Next.value (.agg XA)) w' := by rw [hSw]; rfl
    unfold execOp
    simp only [Act.eval, Instr.loadAt, Instr.sureAddr, Sem.run_bind, Sem.run_pure, Result.andThen_ok]
    exact e
  try simp only [Act.put, List.setIfInBounds_toArray, List.set_cons_zero, List.set_cons_succ]
  refine GoE.one (i := 4) rfl (by kernel_rfl) (fun K hK => ?_)
  go_simp
  go_at_call 19
  (with_reducible refine (hen.out _ _ H5.out).mono ?_)
  rintro e w5 ⟨ev, rfl, h6⟩
  have S1 : (loadVar 31 ⟨w.heap.size, 0, none⟩).run Try.prog w5 = .ok (.agg XA) w5 := run_loadVar_row _ _ _ _ XA (0, 0) _ (h6.pull 3).heap huf rfl hisz.out
  have hsrc := SrcOk.ofRdB (SlB.rd h6)
  rw [hel2] at hsrc
  have h7 := h6.pull 1
  clear h6
  go_wp2_with fail
  refine hK.out _ _ (fun _ => S1) ?_
  clear hK K
  try simp only [Act.put, List.setIfInBounds_toArray, List.set_cons_zero, List.set_cons_succ]
  refine GoE.one (i := 5) rfl (by kernel_rfl) (fun K hK => ?_)
  refine step_copyW (i := o) (c := dc - o) rfl (.tmp 38) (.tmp 40) rfl elem_byte rfl h7 rfl hsrc (bvs_one _) him (by omega) ?_
  intro w6 h8
  refine hK.out _ _ (fun h => absurd rfl h) ?_
  clear hK K
  try simp only [Act.put, List.setIfInBounds_toArray, List.set_cons_zero, List.set_cons_succ]
  refine GoE.done (by kernel_rfl) ?_
  have hbp := bvs_patch D (encI x) o
  rw [hel2] at hbp
  rw [hbp] at h8
  have hpt := hid (hput.out _ _ _ _ (by rw [patch_len (by rw [hel2, hlen.out]; exact him), hlen.out]) (h8.bring [0, 2]))
  clear h7 hsrc S0 S1 hbp h8
  go_wp2_with (go_at_call 20; (with_reducible refine hpt.out.mono ?_); rintro e w7 ⟨v, rfl, rfl, h9⟩)
  go_ret
  refine Ret.mk ⟨rfl, ?_⟩
  rw [hR.out]
  exact (h9.bring [1, 2, 3]).tail.tail.tail
end
end Go.Proofs.Ytklnlomleiebaaa

namespace Go.Proofs.Ytklnlomleiebaaa
set_option linter.unusedVariables false
set_option linter.unusedSimpArgs false
open Go.RowKit
theorem run_equalIn_pvs {P : Program} (w : World) (d : Nat) (t e : TypeId) (n : Nat) (ht : P.underlying t = some (.array n e)) (he : P.underlying e = some (.int .i64)) (hsz : ∀ w, (sizeOf e).run P w = .ok 1 w)
    (xs : List Nat) (hx : xs.length = n) : (Op.equalIn (d + 2) t (.agg (pvs xs).toArray) (.agg (pvs xs).toArray)).run P w = .ok true w := by
  rw [Op.equalIn]
  simp only [Sem.run_bind, run_underlying ht, Result.andThen_ok, hsz, Std.Legacy.Range.forIn_eq_forIn_range', Std.Legacy.Range.size, Nat.sub_zero, Nat.add_sub_cancel, Nat.div_one]
  have hl : ∀ i ∈ List.range' 0 n 1, i < n := fun i hi => by simpa using (List.mem_range'_1.1 hi).2
  generalize List.range' 0 n 1 = l at hl ⊢
  induction l with
  | nil => simp
  | cons i l ih =>
    have hi : i < n := hl i (by simp)
    have px : (part e (pvs xs).toArray (i * 1)).run P w = .ok (.int .i64 ((xs.getD i 0 : Nat) : Int)) w := by
      simp [pvs, part, isAgg, run_underlying he, List.getD, List.getElem?_eq_getElem (show i < xs.length by omega)]
    have pe : (Op.equalIn (d + 1) e (.int .i64 ((xs.getD i 0 : Nat) : Int)) (.int .i64 ((xs.getD i 0 : Nat) : Int))).run P w = .ok true w := by
      rw [run_equalIn_int w d e .i64 .i64 _ _ he]
      simp
    simp only [List.forIn_cons, Sem.run_bind, px, pe, Result.andThen_ok, Bool.not_true, Bool.false_eq_true, if_false, Sem.run_pure]
    exact ih fun j hj => hl j (by simp [hj])
set_option maxRecDepth 100000 in
set_option maxHeartbeats 2000000 in
theorem run_eql_ino {x : Ino} (hx : x.Ok) (w : World) : (binOp .eql 31 (inoV x) (inoV x)).run Try.prog w = .ok (.bool true) w := by
  obtain ⟨ty, mode, nlink, uid, gid, gen, size, verf, tm, ptr⟩ := x
  obtain ⟨htm, hptr⟩ := hx
  obtain ⟨a0, a1, a2, a3, a4, a5, rfl⟩ := list6 htm
  obtain ⟨p0, p1, p2, p3, p4, p5, p6, p7, p8, rfl⟩ := list9 hptr
  show (binOp .eql 31 (.agg #[.int .i64 ty, .int .i64 mode, .int .i64 nlink, .int .u32 (uid : Int), .int .u32 (gid : Int), .int .u32 (gen : Int), .int .u64 (size : Int), .int .u64 (verf : Int), .int .u32 (a0 : Int), .int .u32 (a1 : Int), .int .u32 (a2 : Int), .int .u32 (a3 : Int), .int .u32 (a4 : Int), .int .u32 (a5 : Int), .int .i64 (p0 : Int), .int .i64 (p1 : Int), .int .i64 (p2 : Int), .int .i64 (p3 : Int), .int .i64 (p4 : Int), .int .i64 (p5 : Int), .int .i64 (p6 : Int), .int .i64 (p7 : Int), .int .i64 (p8 : Int)]) (.agg #[.int .i64 ty, .int .i64 mode, .int .i64 nlink, .int .u32 (uid : Int), .int .u32 (gid : Int), .int .u32 (gen : Int), .int .u64 (size : Int), .int .u64 (verf : Int), .int .u32 (a0 : Int), .int .u32 (a1 : Int), .int .u32 (a2 : Int), .int .u32 (a3 : Int), .int .u32 (a4 : Int), .int .u32 (a5 : Int), .int .i64 (p0 : Int), .int .i64 (p1 : Int), .int .i64 (p2 : Int), .int .i64 (p3 : Int), .int .i64 (p4 : Int), .int .i64 (p5 : Int), .int .i64 (p6 : Int), .int .i64 (p7 : Int), .int .i64 (p8 : Int)])).run Try.prog w = .ok (.bool true) w
  have harr : ∀ w : World, (Op.equalIn 9999 29 (.agg #[.int .i64 (p0 : Int), .int .i64 (p1 : Int), .int .i64 (p2 : Int), .int .i64 (p3 : Int), .int .i64 (p4 : Int), .int .i64 (p5 : Int), .int .i64 (p6 : Int), .int .i64 (p7 : Int), .int .i64 (p8 : Int)]) (.agg #[.int .i64 (p0 : Int), .int .i64 (p1 : Int), .int .i64 (p2 : Int), .int .i64 (p3 : Int), .int .i64 (p4 : Int), .int .i64 (p5 : Int), .int .i64 (p6 : Int), .int .i64 (p7 : Int), .int .i64 (p8 : Int)])).run Try.prog w = .ok true w := fun w => run_equalIn_pvs w 9997 29 3 9 Try.underlying29 Try.underlying3 (fun w => by kernel_rfl) [p0, p1, p2, p3, p4, p5, p6, p7, p8] rfl
  go_simp
end Go.Proofs.Ytklnlomleiebaaa

namespace Go.Proofs.Ytklnlomleiebaaa
set_option linter.unusedVariables false
set_option linter.unusedSimpArgs false
open Go.RowKit
def qvs (l : List Int) : List Value := l.map fun n : Int => .int .i64 n
theorem Rd.arr {P : Program} {w : World} {t e : TypeId} {cs : List Value} {n : Nat} (ht : P.underlying t = some (.array n e)) (h : Rd P w t cs) : cs.length = P.cellsOf t ∧ ∀ (i : Nat), i < n → Rd P w e ((cs.drop (i * P.cellsOf e)).take (P.cellsOf e)) := by
  obtain ⟨H, enc, base, spare, held, fuel, x, h, hz⟩ := h
  obtain ⟨xs, m, _, hx, h1, h2, h3⟩ := DataW.trod_array ht h
  refine ⟨h1, fun i hi => ?_⟩
  have h4 := h3 i hi
  have hi2 : i < xs.length := by rw [h2]; exact hi
  rw [List.getElem?_eq_getElem hi2] at h4
  refine ⟨H, enc, base, spare, held, m, _, h4, fun k hk => hz k ?_⟩
  rw [hx, DataW.weights, ht]
  exact weights_all (xs.map (·.1)) _ (List.mem_map.2 ⟨xs[i], List.getElem_mem _, rfl⟩) k hk
theorem Rd.nat32 {w : World} {cs : List Value} (h : Rd Try.prog w 26 cs) : ∃ n : Nat, cs = [.int .u32 (n : Int)] ∧ n < 4294967296 := by
  obtain ⟨n, h1, h2, h3⟩ := Rd.int Try.underlying26 h
  have h4 : 0 ≤ n := h2
  have h5 : n ≤ 4294967295 := h3
  exact ⟨n.toNat, by rw [Int.toNat_of_nonneg h4]; exact h1, by omega⟩
theorem Rd.nat64 {w : World} {cs : List Value} (h : Rd Try.prog w 22 cs) : ∃ n : Nat, cs = [.int .u64 (n : Int)] ∧ n < 18446744073709551616 := by
  obtain ⟨n, h1, h2, h3⟩ := Rd.int Try.underlying22 h
  have h4 : 0 ≤ n := h2
  have h5 : n ≤ 18446744073709551615 := h3
  exact ⟨n.toNat, by rw [Int.toNat_of_nonneg h4]; exact h1, by omega⟩
theorem list2c {cs : List Value} {a b : Value} (hl : cs.length = 2) (h0 : (cs.drop 0).take 1 = [a]) (h1 : (cs.drop 1).take 1 = [b]) : cs = [a, b] := by
  match cs, hl with
  | [p, q], _ => simp at h0 h1; rw [h0, h1]
set_option maxRecDepth 100000 in
theorem Rd.time2 {w : World} {cs : List Value} (h : Rd Try.prog w 28 cs) : ∃ (a b : Nat), cs = [.int .u32 (a : Int), .int .u32 (b : Int)] ∧ a < 4294967296 ∧ b < 4294967296 := by
  obtain ⟨hl, hf⟩ := Rd.struct Try.underlying28 h
  obtain ⟨a, ha, ha2⟩ := Rd.nat32 (hf 0 _ rfl)
  obtain ⟨b, hb, hb2⟩ := Rd.nat32 (hf 1 _ rfl)
  exact ⟨a, b, list2c (hl.trans (by kernel_rfl)) ha hb, ha2, hb2⟩
theorem list23c {cs q : List Value} {v0 v1 v2 v3 v4 v5 v6 v7 t0 t1 t2 t3 t4 t5 : Value} (hl : cs.length = 23) (h0 : (cs.drop 0).take 1 = [v0]) (h1 : (cs.drop 1).take 1 = [v1]) (h2 : (cs.drop 2).take 1 = [v2]) (h3 : (cs.drop 3).take 1 = [v3]) (h4 : (cs.drop 4).take 1 = [v4]) (h5 : (cs.drop 5).take 1 = [v5]) (h6 : (cs.drop 6).take 1 = [v6]) (h7 : (cs.drop 7).take 1 = [v7]) (h8 : (cs.drop 8).take 2 = [t0, t1]) (h9 : (cs.drop 10).take 2 = [t2, t3]) (h10 : (cs.drop 12).take 2 = [t4, t5]) (h11 : (cs.drop 14).take 9 = q) : cs = [v0, v1, v2, v3, v4, v5, v6, v7, t0, t1, t2, t3, t4, t5] ++ q := by
  match cs, hl with
  | [x0, x1, x2, x3, x4, x5, x6, x7, x8, x9, x10, x11, x12, x13, x14, x15, x16, x17, x18, x19, x20, x21, x22], _ =>
    simp at h0 h1 h2 h3 h4 h5 h6 h7 h8 h9 h10 h11
    rw [h0, h1, h2, h3, h4, h5, h6, h7, h8.1, h8.2, h9.1, h9.2, h10.1, h10.2, ← h11]
    rfl
set_option maxRecDepth 100000 in
theorem Rd.arr9 {w : World} {cs : List Value} (h : Rd Try.prog w 29 cs) : ∃ Q : List Int, cs = qvs Q ∧ Q.length = 9 := by
  obtain ⟨hl, hf⟩ := Rd.arr Try.underlying29 h
  have hl9 : cs.length = 9 := hl.trans (by kernel_rfl)
  have hc : Try.prog.cellsOf 3 = 1 := by kernel_rfl
  have hv : ∀ i, i < 9 → ∃ n : Int, cs[i]? = some (.int .i64 n) := fun i hi => by
    obtain ⟨n, hn, _⟩ := Rd.int Try.underlying3 (hf i hi)
    rw [hc, Nat.mul_one] at hn
    refine ⟨n, ?_⟩
    have := congrArg (fun l : List Value => l[0]?) hn
    simp only [List.getElem?_take, List.getElem?_drop] at this
    simpa using this
  refine ⟨(List.range 9).map (fun i => if h : i < 9 then Classical.choose (hv i h) else 0), ?_, by simp⟩
  apply List.ext_getElem?
  intro i
  by_cases hi : i < 9
  · rw [Classical.choose_spec (hv i hi)]
    simp [qvs, List.getElem?_range, hi]
  · rw [List.getElem?_eq_none (by omega), List.getElem?_eq_none (by simp [qvs]; omega)]
/-- the first fourteen cells of an inode -/
def head14 (ty mode nlink : Int) (uid gid gen size verf : Nat) (tm : List Nat) : List Value := [.int .i64 ty, .int .i64 mode, .int .i64 nlink, .int .u32 (uid : Int), .int .u32 (gid : Int), .int .u32 (gen : Int), .int .u64 (size : Int), .int .u64 (verf : Int)] ++ tvs tm
set_option maxRecDepth 100000 in
theorem Rd.ino {w : World} {cs : List Value} (h : Rd Try.prog w 31 cs) : ∃ (ty mode nlink : Int) (uid gid gen size verf : Nat) (tm : List Nat) (Q : List Int), cs = head14 ty mode nlink uid gid gen size verf tm ++ qvs Q ∧ tm.length = 6 ∧ Q.length = 9 ∧ uid < 4294967296 ∧ gid < 4294967296 ∧ gen < 4294967296 ∧ size < 18446744073709551616 ∧ verf < 18446744073709551616 ∧ ∀ t ∈ tm, t < 4294967296 := by
  obtain ⟨hl, hf⟩ := Rd.struct Try.underlying31 h
  obtain ⟨v0, h0, _⟩ := Rd.int Try.underlying3 (hf 0 _ rfl)
  obtain ⟨v1, h1, _⟩ := Rd.int Try.underlying3 (hf 1 _ rfl)
  obtain ⟨v2, h2, _⟩ := Rd.int Try.underlying3 (hf 2 _ rfl)
  obtain ⟨v3, h3, b3⟩ := Rd.nat32 (hf 3 _ rfl)
  obtain ⟨v4, h4, b4⟩ := Rd.nat32 (hf 4 _ rfl)
  obtain ⟨v5, h5, b5⟩ := Rd.nat32 (hf 5 _ rfl)
  obtain ⟨v6, h6, b6⟩ := Rd.nat64 (hf 6 _ rfl)
  obtain ⟨v7, h7, b7⟩ := Rd.nat64 (hf 7 _ rfl)
  obtain ⟨a0, a1, h8, c0, c1⟩ := Rd.time2 (hf 8 _ rfl)
  obtain ⟨a2, a3, h9, c2, c3⟩ := Rd.time2 (hf 9 _ rfl)
  obtain ⟨a4, a5, h10, c4, c5⟩ := Rd.time2 (hf 10 _ rfl)
  obtain ⟨Q, h11, hQ⟩ := Rd.arr9 (hf 11 _ rfl)
  refine ⟨v0, v1, v2, v3, v4, v5, v6, v7, [a0, a1, a2, a3, a4, a5], Q, ?_, rfl, hQ, b3, b4, b5, b6, b7, by intro t ht; simp at ht; omega⟩
  exact list23c (hl.trans (by kernel_rfl)) h0 h1 h2 h3 h4 h5 h6 h7 h8 h9 h10 h11
end Go.Proofs.Ytklnlomleiebaaa

namespace Go.Proofs.Ytklnlomleiebaaa
set_option linter.unusedVariables false
set_option linter.unusedSimpArgs false
open Go.RowKit
theorem g300 : planGood (300 : Nat) (32 : Nat) := by unfold planGood; omega
theorem e300 : planErr (300 : Nat) (32 : Nat) = 0 := by decide
def mixQ (f : Int → Nat) (Q : List Int) (j : Nat) : List Int := (Q.take j).map (fun q => ((f q : Nat) : Int)) ++ Q.drop j
theorem mixQ_len (f : Int → Nat) {Q : List Int} {j : Nat} (hj : j ≤ Q.length) : (mixQ f Q j).length = Q.length := by simp [mixQ]; omega
theorem mixQ_get (f : Int → Nat) {Q : List Int} {j : Nat} (hj : j < Q.length) : (mixQ f Q j)[j]? = some (Q.getD j 0) := by
  unfold mixQ
  rw [List.getElem?_append_right (by simp; omega)]
  simp [List.length_take, Nat.min_eq_left (Nat.le_of_lt hj), List.getD, List.getElem?_eq_getElem hj]
theorem mixQ_set (f : Int → Nat) {Q : List Int} {j : Nat} (hj : j < Q.length) : (mixQ f Q j).set j ((f (Q.getD j 0) : Nat) : Int) = mixQ f Q (j + 1) := by
  unfold mixQ
  have e : ((Q.take j).map (fun q => ((f q : Nat) : Int))).length = j := by simp; omega
  rw [List.set_append_right _ _ (by omega), e, Nat.sub_self, List.drop_eq_getElem_cons hj, List.set_cons_zero, List.take_add_one, List.map_append, List.append_assoc]
  simp [List.getElem?_eq_getElem hj, List.getD]
theorem mixQ_end (f : Int → Nat) (Q : List Int) : qvs (mixQ f Q Q.length) = pvs (Q.map f) := by simp [mixQ, qvs, pvs]
theorem head14_len {ty mode nlink : Int} {uid gid gen size verf : Nat} {tm : List Nat} (h : tm.length = 6) : (head14 ty mode nlink uid gid gen size verf tm).length = 14 := by simp [head14, tvs_len, h]
theorem cells_get {H : List Value} {R : List Int} {j : Nat} {q : Int} (hH : H.length = 14) (hq : R[j]? = some q) : (H ++ qvs R).toArray[14 + j]? = some (.int .i64 q) := by
  rw [List.getElem?_toArray, List.getElem?_append_right (by omega), hH, Nat.add_sub_cancel_left]
  simp [qvs, hq]
theorem cells_set {H : List Value} {R : List Int} {j : Nat} {q : Int} (hH : H.length = 14) : (H ++ qvs R).toArray.setIfInBounds (14 + j) (.int .i64 q) = (H ++ qvs (R.set j q)).toArray := by
  rw [List.setIfInBounds_toArray, List.set_append_right _ _ (by omega), hH, Nat.add_sub_cancel_left]
  simp [qvs, List.map_set]
set_option maxRecDepth 100000 in
theorem run_equalIn_ino {x : Ino} (hx : x.Ok) (w : World) : (Op.equalIn 10000 31 (inoV x) (inoV x)).run Try.prog w = .ok true w := by
  have h := run_eql_ino hx w
  rw [run_eql_struct] at h
  cases hr : (Op.equalIn 10000 31 (inoV x) (inoV x)).run Try.prog w with
  | ok a w' =>
    rw [hr] at h
    simp only [Result.andThen_ok, Result.ok.injEq, Value.bool.injEq] at h
    rw [h.1, h.2]
  | halt a w' =>
    rw [hr] at h
    simp [Result.andThen] at h
set_option maxRecDepth 100000 in
set_option maxHeartbeats 8000000 in
theorem bytes_walk {ai ak ty mode nlink : Int} {uid gid gen size verf : Nat} {tm : List Nat} {Q : List Int} (w : World) (htm : tm.length = 6) (hQ : Q.length = 9) (b1 : uid < 4294967296) (b2 : gid < 4294967296) (b3 : gen < 4294967296) (b4 : size < 18446744073709551616) (b5 : verf < 18446744073709551616) (b6 : ∀ t ∈ tm, t < 4294967296) :
    Calls Try.prog 4 #[.int .i64 ai, .int .i64 ak, .agg (head14 ty mode nlink uid gid gen size verf tm ++ qvs Q).toArray] w (Ret fun v w' => v = .bool true ∧ SatL w' [old w]) := by
  have h0 := (sat_old w).alloc (.cells (head14 ty mode nlink uid gid gen size verf tm ++ qvs Q).toArray 31)
  have hk := hid (known_ok h0)
  have hfr := fun (w : World) (L : List HP) (h : SatL w L) => fil_fresh g300 e300 h
  rw [show ((300 : Nat) : Int) = 300 from rfl, show ((32 : Nat) : Int) = 32 from rfl] at hfr
  obtain ⟨ni, bi, hwi⟩ := within_nat ai 30 (by omega)
  obtain ⟨nk, bk, hwk⟩ := within_nat ak 30 (by omega)
  obtain ⟨n0, bn0, hw0⟩ := within_nat ty 256 (by omega)
  obtain ⟨n1, bn1, hw1⟩ := within_nat mode 65536 (by omega)
  obtain ⟨n2, bn2, hw2⟩ := within_nat nlink 65536 (by omega)
  have hf : ∀ q : Int, ∃ k : Nat, (k : Int) < 4294967296 ∧ ∀ w : World, Calls Try.prog 9 #[.int .i64 q, .int .i64 4294967296] w fun e w' => e = .returned (.int .i64 (k : Int)) ∧ w = w' := fun q => within_nat q 4294967296 (by omega)
  obtain ⟨f, hff⟩ : ∃ f : Int → Nat, ∀ q : Int, (f q : Int) < 4294967296 ∧ ∀ w : World, Calls Try.prog 9 #[.int .i64 q, .int .i64 4294967296] w fun e w' => e = .returned (.int .i64 ((f q : Nat) : Int)) ∧ w = w' := ⟨fun q => Classical.choose (hf q), fun q => Classical.choose_spec (hf q)⟩
  obtain ⟨X, hX⟩ : ∃ X : Ino, X = ⟨n0, n1, n2, uid, gid, gen, size, verf, tm, Q.map f⟩ := ⟨_, rfl⟩
  have hfit : X.Fit := by
    rw [hX]
    refine ⟨⟨htm, by simp [hQ]⟩, by simp only; omega, by simp only; omega, by simp only; omega, b1, b2, b3, b4, b5, b6, ?_⟩
    intro p hp
    obtain ⟨q, _, rfl⟩ := List.mem_map.1 hp
    have := (hff q).1
    omega
  have Hk := hk
  have Hfr := hid hfr
  have Hwi := hid hwi
  have Hwk := hid hwk
  have Hw0 := hid hw0
  have Hw1 := hid hw1
  have Hw2 := hid hw2
  have Hff := hid hff
  have Hfit := hid hfit
  have HX := hid hX
  have Htm := hid htm
  have HQ := hid hQ
  have c0 : (head14 ty mode nlink uid gid gen size verf tm ++ qvs Q).toArray[0]? = some (.int .i64 ty) := rfl
  have c1 : (head14 n0 mode nlink uid gid gen size verf tm ++ qvs Q).toArray[1]? = some (.int .i64 mode) := rfl
  have c2 : (head14 n0 n1 nlink uid gid gen size verf tm ++ qvs Q).toArray[2]? = some (.int .i64 nlink) := rfl
  have s0 : (head14 ty mode nlink uid gid gen size verf tm ++ qvs Q).toArray.setIfInBounds 0 (.int .i64 (n0 : Int)) = (head14 n0 mode nlink uid gid gen size verf tm ++ qvs Q).toArray := by simp [head14]
  have s1 : (head14 n0 mode nlink uid gid gen size verf tm ++ qvs Q).toArray.setIfInBounds 1 (.int .i64 (n1 : Int)) = (head14 n0 n1 nlink uid gid gen size verf tm ++ qvs Q).toArray := by simp [head14]
  have s2 : (head14 n0 n1 nlink uid gid gen size verf tm ++ qvs Q).toArray.setIfInBounds 2 (.int .i64 (n2 : Int)) = (head14 n0 n1 n2 uid gid gen size verf tm ++ qvs Q).toArray := by simp [head14]
  have C0 := hid c0
  have C1 := hid c1
  have C2 := hid c2
  have S0 := hid s0
  have S1 := hid s1
  have S2 := hid s2
  have H14 : Hid ((head14 n0 n1 n2 uid gid gen size verf tm).length = 14) := hid (head14_len htm)
  have hend : Hid ((head14 n0 n1 n2 uid gid gen size verf tm ++ qvs (mixQ f Q 9)).toArray = inoA X) := hid (by rw [← hQ, mixQ_end, hX]; rfl)
  have hstart : Hid ((head14 n0 n1 n2 uid gid gen size verf tm ++ qvs Q).toArray = (head14 n0 n1 n2 uid gid gen size verf tm ++ qvs (mixQ f Q 0)).toArray) := hid (by simp [mixQ])
  clear hk hfr hwi hwk hw0 hw1 hw2 hff hf hfit hX htm hQ c0 c1 c2 s0 s1 s2 b1 b2 b3 b4 b5 b6 h0
  generalize hA0 : (head14 ty mode nlink uid gid gen size verf tm ++ qvs Q).toArray = A0 at *
  generalize hA1 : (head14 n0 mode nlink uid gid gen size verf tm ++ qvs Q).toArray = A1 at *
  generalize hA2 : (head14 n0 n1 nlink uid gid gen size verf tm ++ qvs Q).toArray = A2 at *
  generalize head14 n0 n1 n2 uid gid gen size verf tm = H at *
  clear hA0 hA1 hA2
  have t0 : True := trivial
  go_enter Try.func4, Try.ntmps4
  go_wp2_with (first
    | (go_at_call 5; (with_reducible refine Hk.out.mono ?_); rintro e w1 ⟨v, rfl, rfl, h1⟩)
    | (go_at_call 8; (with_reducible refine (Hfr.out _ _ h1).mono ?_); rintro e w2 ⟨v, rfl, vb, rfl, h2⟩; have z0 := SatL.cell (h2.pull 1) C0.out; have f0 := SatL.free (h2.pull 1) 0; have h3 := (SatL.set (h2.pull 1) (i := 0) (.int .i64 (n0 : Int))); rw [S0.out] at h3; have z1 := SatL.cell h3 C1.out; have f1 := SatL.free h3 1; have h4 := (SatL.set h3 (i := 1) (.int .i64 (n1 : Int))); rw [S1.out] at h4; have z2 := SatL.cell h4 C2.out; have f2 := SatL.free h4 2; have h5 := (SatL.set h4 (i := 2) (.int .i64 (n2 : Int))); rw [S2.out] at h5; have H5 := hid h5; clear h1 h3 h4 h5)
    | (have _t := t0; go_at_call 9; (with_reducible refine (Hwi.out _).mono ?_); clear t0; rintro e w3 ⟨rfl, rfl⟩; have t1 : True := trivial)
    | (have _t := t1; go_at_call 9; (with_reducible refine (Hwk.out _).mono ?_); clear t1; rintro e w3 ⟨rfl, rfl⟩; have t2 : True := trivial)
    | (have _t := t2; go_at_call 9; (with_reducible refine (Hw0.out _).mono ?_); clear t2; rintro e w3 ⟨rfl, rfl⟩; have t3 : True := trivial)
    | (have _t := t3; go_at_call 9; (with_reducible refine (Hw1.out _).mono ?_); clear t3; rintro e w3 ⟨rfl, rfl⟩; have t4 : True := trivial)
    | (have _t := t4; go_at_call 9; (with_reducible refine (Hw2.out _).mono ?_); clear t4; rintro e w3 ⟨rfl, rfl⟩; have t5 : True := trivial))
  generalize w.heap.size = xb at *
  go_loopw [8] (fun v8 wr => ∃ j : Nat, j ≤ 9 ∧ v8 = .int .i64 (j : Int) ∧ SatL wr (cl xb 31 (H ++ qvs (mixQ f Q j)).toArray :: FilR vb 300 32 (mkVs 300 32) :: [old w])) (fun v8 _ => 9 - (intOf v8).toNat)
  case atStart => exact ⟨0, by omega, rfl, by rw [← hstart.out]; exact H5.out⟩
  case round =>
    clear H5 z0 z1 z2 f0 f1 f2
    obtain ⟨j, hj, rfl, hs⟩ := hrel
    by_cases hlt : j < 9
    · have hQ := HQ.out
      have cP := SatL.cell hs (cells_get H14.out (mixQ_get f (show j < Q.length by omega)))
      have fP := SatL.free hs (14 + j)
      have hw := hid ((Hff.out (Q.getD j 0)).2)
      have h3 := SatL.set hs (i := 14 + j) (.int .i64 ((f (Q.getD j 0) : Nat) : Int))
      rw [cells_set H14.out, mixQ_set f (show j < Q.length by omega)] at h3
      have H3 := hid h3
      have hji : (j : Int) < 9 := by omega
      generalize f (Q.getD j 0) = z at *
      generalize Q.getD j 0 = q at *
      clear hs h3 hQ
      go_wp2_with (go_at_call 9; (with_reducible refine (hw.out _).mono ?_); rintro e w3 ⟨rfl, rfl⟩)
      go_roundw
      case rel => exact ⟨j + 1, by omega, by go_num, H3.out⟩
      case measure => simp [intOf]; omega
    · have hji : ¬ (j : Int) < 9 := by omega
      obtain rfl : j = 9 := by omega
      rw [hend.out] at hs
      obtain ⟨n1', n2', n3', n4', n5', n6'⟩ := FilR.nat (hs.pull 1)
      have hgl : ∀ k, 1 ≤ k → k < 32 → ((mkVs 300 32).D (tableN 300 + k / 4)).length = 512 := fun k hk1 hk2 => FilR.len (hs.pull 1) (by omega) (by rw [show tableN 300 = 70 by decide]; omega)
      have lI := loadI_save (k := 2 + ni) Hfit.out (hgl (2 + ni) (by omega) (by omega))
      have lN := fun (h : 2 + nk ≠ 2 + ni) => loadI_save_ne (j := 2 + nk) Hfit.out (hgl (2 + ni) (by omega) (by omega)) h
      have hL0 := fun (w : World) (L : List HP) (h : SatL w (FilR vb 300 32 (mkVs 300 32) :: L)) => load_ok (k := 2 + nk) (by omega) h
      have hS := fun (w : World) (L : List HP) (h : SatL w (FilR vb 300 32 (mkVs 300 32) :: L)) => save_ok (k := 2 + ni) Hfit.out (by omega) h
      have hL1 := fun (w : World) (L : List HP) (h : SatL w (FilR vb 300 32 (saveS (mkVs 300 32) (tableN 300) (2 + ni) X) :: L)) => load_ok (k := 2 + ni) (by omega) h
      have hL2 := fun (w : World) (L : List HP) (h : SatL w (FilR vb 300 32 (saveS (mkVs 300 32) (tableN 300) (2 + ni) X) :: L)) => load_ok (k := 2 + nk) (by omega) h
      rw [lI] at hL1
      have ei : ((2 + ni : Nat) : Int) = 2 + (ni : Int) := by omega
      have ek : ((2 + nk : Nat) : Int) = 2 + (nk : Int) := by omega
      rw [ek] at hL0 hL2
      rw [ei] at hS hL1
      have okX := Hfit.out.ok
      have ok0 : (loadI (mkVs 300 32) (tableN 300) (2 + nk)).Ok := loadI_ok ..
      have ok2 : (loadI (saveS (mkVs 300 32) (tableN 300) (2 + ni) X) (tableN 300) (2 + nk)).Ok := loadI_ok ..
      have hcase : Hid ((ni = nk) ∨ (¬ (nk : Int) = ni ∧ loadI (saveS (mkVs 300 32) (tableN 300) (2 + ni) X) (tableN 300) (2 + nk) = loadI (mkVs 300 32) (tableN 300) (2 + nk))) := hid (by
        by_cases e : ni = nk
        · exact .inl e
        · exact .inr ⟨by omega, lN (by omega)⟩)
      generalize loadI (saveS (mkVs 300 32) (tableN 300) (2 + ni) X) (tableN 300) (2 + nk) = Z2 at *
      generalize loadI (mkVs 300 32) (tableN 300) (2 + nk) = Z0 at *
      generalize saveS (mkVs 300 32) (tableN 300) (2 + ni) X = s1 at *
      have eX := hid (fun w => run_equalIn_ino okX w)
      have e0 := hid (fun w => run_equalIn_ino ok0 w)
      have zX := hid (ino_size okX)
      have z0 := hid (ino_size ok0)
      have z2 := hid (ino_size ok2)
      have iX : Hid ((inoA ino0).size = (inoA X).size) := hid (by rw [inoA_size ino0_ok, inoA_size okX])
      have i0 : Hid ((inoA ino0).size = (inoA Z0).size) := hid (by rw [inoA_size ino0_ok, inoA_size ok0])
      have i2 : Hid ((inoA ino0).size = (inoA Z2).size) := hid (by rw [inoA_size ino0_ok, inoA_size ok2])
      have oX := hid (inoA_one X)
      have o0 := hid (inoA_one Z0)
      have o2 := hid (inoA_one Z2)
      have HL0 := hid hL0
      have HS := hid hS
      have HL1 := hid hL1
      have HL2 := hid hL2
      have Hs := hid hs
      obtain ⟨uf, huf⟩ := ino_under
      have Hcase : Hid ((ni = nk) ∨ (¬ (nk : Int) = ni ∧ inoA Z2 = inoA Z0)) := hid (hcase.out.imp id fun h => ⟨h.1, by rw [h.2]⟩)
      unfold inoV at HL0 HS HL1 HL2 eX e0
      generalize inoA X = XA at *
      generalize inoA Z0 = ZA at *
      generalize inoA Z2 = YA at *
      clear hL0 hS hL1 hL2 hs okX ok0 ok2 lI lN hgl ei ek n1' n2' n3' n4' hcase Hk Hfr Hwi Hwk Hw0 Hw1 Hw2 Hff Hfit HX Htm HQ C0 C1 C2 S0 S1 S2 H14 hend hstart
      have t6 : True := trivial
      go_upto_region 19 with (first
        | (have _t := t6; go_at_call 10; (with_reducible refine (HL0.out _ _ (Hs.out.pull 1)).mono ?_); clear t6; rintro e w4 ⟨v, rfl, rfl, h4⟩; have t7 : True := trivial)
        | (have _t := t7; refine wpList_storeRow_cl rfl 31 (.tmp 9) (.tmp 53) rfl rfl rfl (ha0.out _ _ h4) z0.out i0.out o0.out ?_; clear t7; intro w5 h5; have t8 : True := trivial)
        | (have _t := t8; refine wpList_loadRow_G (by rfl) 31 (.tmp 5) rfl rfl (h5.pull 2) huf rfl zX.out ?_; clear t8; have t9 : True := trivial)
        | (have _t := t9; go_at_call 11; (with_reducible refine (HS.out _ _ (h5.pull 1)).mono ?_); clear t9; rintro e w6 ⟨v, rfl, rfl, h6⟩; have t10 : True := trivial)
        | (have _t := t10; go_at_call 10; (with_reducible refine (HL1.out _ _ h6).mono ?_); clear t10; rintro e w7 ⟨v, rfl, rfl, h7⟩; have t11 : True := trivial)
        | (have _t := t11; refine wpList_storeRow_cl rfl 31 (.tmp 11) (.tmp 68) rfl rfl rfl (ha0.out _ _ h7) zX.out iX.out oX.out ?_; clear t11; intro w8 h8; have t12 : True := trivial)
        | (have _t := t12; go_at_call 10; (with_reducible refine (HL2.out _ _ (h8.pull 1)).mono ?_); clear t12; rintro e w9 ⟨v, rfl, rfl, h9⟩; have t13 : True := trivial)
        | (have _t := t13; refine wpList_storeRow_cl rfl 31 (.tmp 12) (.tmp 74) rfl rfl rfl (ha0.out _ _ h9) z2.out i2.out o2.out ?_; clear t13; intro w10 h10; have t14 : True := trivial))
      have H10 := hid h10
      have qX := eX.out
      have q0 := e0.out
      clear h4 h5 h6 h7 h8 h9 h10
      rcases Hcase.out with e | ⟨e, e2⟩
      · have en : (ni : Int) = nk := by omega
        have eb : ((2 + (nk : Int)) == 2 + (ni : Int)) = true := by simp; omega
        clear e Hcase
        go_wp2_with (first
          | (refine wpList_loadRow_G (by rfl) 31 (.tmp 11) rfl rfl (H10.out.pull 2) huf rfl zX.out ?_)
          | (refine wpList_loadRow_G (by rfl) 31 (.tmp 5) rfl rfl (H10.out.pull 4) huf rfl zX.out ?_))
        go_ret
        exact Ret.mk ⟨rfl, H10.out.tail.tail.tail.tail.tail⟩
      · subst e2
        have eb : ((2 + (nk : Int)) == 2 + (ni : Int)) = false := by simp; omega
        have en : ¬ (2 + (nk : Int)) = 2 + (ni : Int) := by omega
        clear Hcase
        go_wp2_with (first
          | (refine wpList_loadRow_G (by rfl) 31 (.tmp 11) rfl rfl (H10.out.pull 2) huf rfl zX.out ?_)
          | (refine wpList_loadRow_G (by rfl) 31 (.tmp 5) rfl rfl (H10.out.pull 4) huf rfl zX.out ?_)
          | (refine wpList_loadRow_G (by rfl) 31 (.tmp 12) rfl rfl H10.out huf rfl z2.out ?_)
          | (refine wpList_loadRow_G (by rfl) 31 (.tmp 9) rfl rfl (H10.out.pull 3) huf rfl z2.out ?_))
        go_ret
        exact Ret.mk ⟨rfl, H10.out.tail.tail.tail.tail.tail⟩
end Go.Proofs.Ytklnlomleiebaaa
