/- done of chapter 2's statements: both disks take one call alike. No condition beside the sizes that it names. -/
import Derived.Test.YtjjiljijcigekaaLaw2F
namespace Go.Proofs.Ytjjiljijcigekaa
set_option linter.unusedVariables false
set_option linter.unusedSimpArgs false
open Go.RowKit
section
variable {w : World} {L : List HP} {db xb : Nat} {s : Dsk}
set_option maxRecDepth 100000 in
set_option maxHeartbeats 2000000 in
theorem done_write {p N : Int} {b pn pc : Nat} {pa : Option Addr} (hb : b < 256) (hr : I64 p ∧ I64 N) (hV : ∀ i, (s.V i).length ≤ 100000) (h : SatL w (DskR db s :: RDsk xb s :: L)) :
    Calls Try.prog 20 #[.pointer (some ⟨db, 0, none⟩), .pointer (some ⟨xb, 0, none⟩), .agg #[.int .i64 1, .int .i64 p, .int .i64 N, .int .u8 b, .slice pa pn pc]] w
      (Ret fun r w' => r = .bool true ∧ SatL w' (DskR db (s.wrx p (rowL b N)).2 :: RDsk xb (s.wrx p (rowL b N)).2 :: L)) := by
  have h1 := h.alloc (.cells #[.int .i64 1, .int .i64 p, .int .i64 N, .int .u8 b, .slice pa pn pc] 32)
  have hcl := hid (fun (w' : World) (L' : List HP) (h : SatL w' (cl w.heap.size 32 #[.int .i64 1, .int .i64 p, .int .i64 N, .int .u8 b, .slice pa pn pc] :: L')) => (⟨h.cell (i := 0) rfl, h.cell (i := 1) rfl, h.cell (i := 2) rfl, h.cell (i := 3) rfl⟩ : w'.cell? ⟨w.heap.size, 0, none⟩ = some (.int .i64 1) ∧ w'.cell? ⟨w.heap.size, 1, none⟩ = some (.int .i64 p) ∧ w'.cell? ⟨w.heap.size, 2, none⟩ = some (.int .i64 N) ∧ w'.cell? ⟨w.heap.size, 3, none⟩ = some (.int .u8 b)))
  have hrow := hid (fun (w' : World) (L' : List HP) (h : SatL w' L') => rowx_ok (N := N) hb hr.2.2 h)
  have hl := rowL_len b N
  have hw1 := hid (fun (w' : World) (L' : List HP) (va : Option Addr) (vc : Nat) (h : SatL w' (DskR db s :: L')) (g : Gives L' (RdB (.slice va (rowL b N).length vc) (rowL b N))) => writex_ok rfl hr.1 hl hV h g)
  have hw2 := hid (fun (w' : World) (L' : List HP) (va : Option Addr) (vc : Nat) (h : SatL w' (RDsk xb s :: L')) (g : Gives L' (RdB (.slice va (rowL b N).length vc) (rowL b N))) => refwritex_ok rfl hr.1 hl hV h g)
  obtain ⟨c0, c1, c2, c3⟩ := hcl.out _ _ h1
  generalize rowL b N = R at *
  generalize s.wrx p R = J at *
  obtain ⟨j1, s'⟩ := J
  simp only at *
  clear h hr hV hb
  obtain ⟨q, hq⟩ : ∃ q : Nat, q = w.heap.size := ⟨_, rfl⟩
  go_enter Try.func20, Try.ntmps20
  go_wp2_with (first
    | (go_at_call 15; (with_reducible refine (hrow.out _ _ h1).mono ?_); rintro e w2 ⟨v2, rfl, h2⟩; obtain ⟨ra, rc, rfl, r1, r2⟩ := SlB.valn h2; have d := hcl.out _ _ h2.tail; obtain ⟨d0, d1, d2, d3⟩ := d; clear h1)
    | (go_at_call 10; (with_reducible refine (hw1.out _ _ _ _ (h2.bring [2, 0, 1, 3]) SlB.gives).mono ?_); rintro e w3 ⟨v3, rfl, rfl, h3⟩; have h4 := h3.bring [1, 2, 0, 3]; have f := hcl.out _ _ h4.tail; clear h2 h3))
  have Hl := hid hl
  clear hl
  go_loopw [9] (fun i wr => ∃ (j : Nat) (l : List UInt8), j ≤ R.length ∧ i = .int .i64 j ∧ l.length = R.length ∧ SatL wr (SlB 5 (.slice ra R.length rc) l :: cl w.heap.size 32 #[.int .i64 1, .int .i64 p, .int .i64 N, .int .u8 b, .slice pa pn pc] :: DskR db s' :: RDsk xb s :: L)) (fun i _ => R.length - (intOf i).toNat)
  case atStart => exact ⟨0, R, by omega, rfl, rfl, h4⟩
  case round =>
    clear h4 f
    obtain ⟨j, l, hj, rfl, hl, hs⟩ := hrel
    by_cases hlt : j < R.length
    · obtain ⟨ab, ao, rfl⟩ := Sl.addr hs (by omega)
      have hjl : j < (bvs l).length := by rw [bvs_len]; omega
      have c1 := Sl.cell hs (List.getElem?_eq_getElem hjl)
      have f1 := Sl.free hs (ao + j)
      have h5 := Sl.set hs hjl (.int .u8 ((238 : Nat) : Int))
      rw [bvs_setD (by omega)] at h5
      have hjz : (j : Int) < (R.length : Int) := by omega
      have Hlen := hid (show (l.set j (byteOf 238)).length = R.length by rw [List.length_set]; exact hl)
      clear hs hl
      generalize (bvs l)[j] = bj at *
      go_wp2
      go_roundw
      case rel => exact ⟨j + 1, _, by omega, by go_num, Hlen.out, h5⟩
      case measure => simp [intOf]; omega
    · obtain rfl : j = R.length := by omega
      have hs1 := sat_drew.2 hs
      have S0 := hcl.out _ _ hs1.tail
      clear hs
      go_wp2
      refine GoE.start (fun w' => w'.cell? ⟨w.heap.size, 0, none⟩ = some (.int .i64 1) ∧ w'.cell? ⟨w.heap.size, 1, none⟩ = some (.int .i64 p) ∧ w'.cell? ⟨w.heap.size, 2, none⟩ = some (.int .i64 N) ∧ w'.cell? ⟨w.heap.size, 3, none⟩ = some (.int .u8 b)) 11 12 rfl (by kernel_rfl) ?_
      refine GoE.take (i := 0) (v := ?_) rfl (by decide) (by kernel_rfl) (by kernel_rfl) (by kernel_rfl) (by kernel_rfl) (fun _ _ _ h => h) (by rfl) ?_ (by assumption) ?_
      rotate_left
      · intro w hSw; (try dsimp only at hSw); go_simp; try (with_reducible rfl)
      try simp only [Act.put, List.setIfInBounds_toArray, List.set_cons_zero, List.set_cons_succ]
      refine GoE.take (i := 1) (v := ?_) rfl (by decide) (by kernel_rfl) (by kernel_rfl) (by kernel_rfl) (by kernel_rfl) (fun _ _ _ h => h) (by rfl) ?_ (by assumption) ?_
      rotate_left
      · intro w hSw; (try dsimp only at hSw); go_simp; try (with_reducible rfl)
      try simp only [Act.put, List.setIfInBounds_toArray, List.set_cons_zero, List.set_cons_succ]
      refine GoE.take (i := 2) (v := ?_) rfl (by decide) (by kernel_rfl) (by kernel_rfl) (by kernel_rfl) (by kernel_rfl) (fun _ _ _ h => h) (by rfl) ?_ (by assumption) ?_
      rotate_left
      · intro w hSw; (try dsimp only at hSw); go_simp; try (with_reducible rfl)
      try simp only [Act.put, List.setIfInBounds_toArray, List.set_cons_zero, List.set_cons_succ]
      refine GoE.take (i := 3) (v := ?_) rfl (by decide) (by kernel_rfl) (by kernel_rfl) (by kernel_rfl) (by kernel_rfl) (fun _ _ _ h => h) (by rfl) ?_ (by assumption) ?_
      rotate_left
      · intro w hSw; (try dsimp only at hSw); go_simp; try (with_reducible rfl)
      try simp only [Act.put, List.setIfInBounds_toArray, List.set_cons_zero, List.set_cons_succ]
      refine GoE.take (i := 4) (v := ?_) rfl (by decide) (by kernel_rfl) (by kernel_rfl) (by kernel_rfl) (by kernel_rfl) (fun _ _ _ h => h) (by rfl) ?_ (by assumption) ?_
      rotate_left
      · intro w hSw; (try dsimp only at hSw); go_simp; try (with_reducible rfl)
      try simp only [Act.put, List.setIfInBounds_toArray, List.set_cons_zero, List.set_cons_succ]
      refine GoE.take (i := 5) (v := ?_) rfl (by decide) (by kernel_rfl) (by kernel_rfl) (by kernel_rfl) (by kernel_rfl) (fun _ _ _ h => h) (by rfl) ?_ (by assumption) ?_
      rotate_left
      · intro w hSw; (try dsimp only at hSw); go_simp; try (with_reducible rfl)
      try simp only [Act.put, List.setIfInBounds_toArray, List.set_cons_zero, List.set_cons_succ]
      refine GoE.take (i := 6) (v := ?_) rfl (by decide) (by kernel_rfl) (by kernel_rfl) (by kernel_rfl) (by kernel_rfl) (fun _ _ _ h => h) (by rfl) ?_ (by assumption) ?_
      rotate_left
      · intro w hSw; (try dsimp only at hSw); go_simp; try (with_reducible rfl)
      try simp only [Act.put, List.setIfInBounds_toArray, List.set_cons_zero, List.set_cons_succ]
      refine GoE.take (i := 7) (v := ?_) rfl (by decide) (by kernel_rfl) (by kernel_rfl) (by kernel_rfl) (by kernel_rfl) (fun _ _ _ h => h) (by rfl) ?_ (by assumption) ?_
      rotate_left
      · intro w hSw; (try dsimp only at hSw); go_simp; try (with_reducible rfl)
      try simp only [Act.put, List.setIfInBounds_toArray, List.set_cons_zero, List.set_cons_succ]
      refine GoE.one (i := 8) rfl (by kernel_rfl) (fun K hK => ?_)
      go_simp
      go_at_call 15
      (with_reducible refine (hrow.out _ _ hs1).mono ?_)
      rintro e w5 ⟨v5, rfl, h5⟩; obtain ⟨rb, rd, rfl, r3, r4⟩ := SlB.valn h5; have S5 := hcl.out _ _ h5.tail.tail
      go_wp2_with fail
      refine hK.out _ _ (fun _ => S5) ?_
      clear hK K
      try simp only [Act.put, List.setIfInBounds_toArray, List.set_cons_zero, List.set_cons_succ]
      refine GoE.one (i := 9) rfl (by kernel_rfl) (fun K hK => ?_)
      go_simp
      go_at_call 27
      (with_reducible refine (hw2.out _ _ _ _ (h5.bring [4, 0, 1, 2, 3]) SlB.gives).mono ?_)
      rintro e w6 ⟨v6, rfl, rfl, h6⟩; have h7 := h6.bring [3, 1, 2, 4, 0]; have S7 := hcl.out _ _ h7
      go_wp2_with fail
      refine hK.out _ _ (fun _ => S7) ?_
      clear hK K
      try simp only [Act.put, List.setIfInBounds_toArray, List.set_cons_zero, List.set_cons_succ]
      refine GoE.take (i := 10) (v := ?_) rfl (by decide) (by kernel_rfl) (by kernel_rfl) (by kernel_rfl) (by kernel_rfl) (fun _ _ _ h => h) (by rfl) ?_ (by assumption) ?_
      rotate_left
      · intro w hSw; (try dsimp only at hSw); go_simp; try (with_reducible rfl)
      try simp only [Act.put, List.setIfInBounds_toArray, List.set_cons_zero, List.set_cons_succ]
      refine GoE.one (i := 11) rfl (by kernel_rfl) (fun K hK => ?_)
      go_simp
      refine hK.out _ _ (fun h => absurd rfl h) ?_
      clear hK K
      try simp only [Act.put, List.setIfInBounds_toArray, List.set_cons_zero, List.set_cons_succ]
      refine GoE.done (by kernel_rfl) ?_
      go_wp2
      go_ret
      exact Ret.mk ⟨rfl, SatL.tail (SatL.tail (SatL.tail h7))⟩
set_option maxRecDepth 100000 in
set_option maxHeartbeats 2000000 in
theorem done_flush {p N : Int} {b pn pc : Nat} {pa : Option Addr} (hV : ∀ i, (s.V i).length ≤ 100000) (h : SatL w (DskR db s :: RDsk xb s :: L)) :
    Calls Try.prog 20 #[.pointer (some ⟨db, 0, none⟩), .pointer (some ⟨xb, 0, none⟩), .agg #[.int .i64 3, .int .i64 p, .int .i64 N, .int .u8 b, .slice pa pn pc]] w
      (Ret fun r w' => r = .bool true ∧ SatL w' (DskR db s.flushed :: RDsk xb s.flushed :: L)) := by
  have h1 := h.alloc (.cells #[.int .i64 3, .int .i64 p, .int .i64 N, .int .u8 b, .slice pa pn pc] 32)
  have c0 := SatL.cell h1 (i := 0) (v := .int .i64 3) rfl
  have hf := flush_ok h1.tail
  have hg := hid (fun (w' : World) (L' : List HP) (h : SatL w' (RDsk xb s :: L')) => refflush_ok (fun i => Nat.le_trans (hV i) (by omega)) h)
  clear h hV
  go_enter Try.func20, Try.ntmps20
  go_wp2_with (first
    | (go_at_call 16; (with_reducible refine hf.mono ?_); rintro e w2 ⟨v2, rfl, h2⟩)
    | (go_at_call 28; (with_reducible refine (hg.out _ _ h2.swap).mono ?_); rintro e w3 ⟨v3, rfl, h3⟩))
  go_ret
  exact Ret.mk ⟨rfl, h3.swap⟩
set_option maxRecDepth 100000 in
set_option maxHeartbeats 2000000 in
theorem done_crash {p N : Int} {b pn pc : Nat} {pa : Option Addr} {Z : Nat → Int} (hpn : pn ≤ 17592186044416) (hpa : pn = 0 → pa = none → pc = 0) (hZ : ∀ i, i < pn → -9223372036854775808 ≤ Z i ∧ Z i ≤ 9223372036854775807) (ho : ∀ i, s.n ≤ i → s.V i = []) (hV : ∀ i, (s.V i).length ≤ 100000) (h : SatL w (DskR db s :: RDsk xb s :: L)) (g : Gives L (fun w' => IsRow w' 1 pa pn (fun i => [.int .i64 (Z i)]))) :
    Calls Try.prog 20 #[.pointer (some ⟨db, 0, none⟩), .pointer (some ⟨xb, 0, none⟩), .agg #[.int .i64 4, .int .i64 p, .int .i64 N, .int .u8 b, .slice pa pn pc]] w
      (Ret fun r w' => r = .bool true ∧ SatL w' (DskR db (s.crash pn Z) :: RDsk xb (s.crash pn Z) :: L)) := by
  have h1 := h.alloc (.cells #[.int .i64 4, .int .i64 p, .int .i64 N, .int .u8 b, .slice pa pn pc] 32)
  have hcl := hid (fun (w' : World) (L' : List HP) (h : SatL w' (cl w.heap.size 32 #[.int .i64 4, .int .i64 p, .int .i64 N, .int .u8 b, .slice pa pn pc] :: L')) => h.cell (i := 4) (v := .slice pa pn pc) rfl)
  have c0 := SatL.cell h1 (i := 0) (v := .int .i64 4) rfl
  have c4 := hcl.out _ _ h1
  have hs0 := hid (fun w' (h : IsRow w' 1 pa pn (fun i => [.int .i64 (Z i)])) => SrcOk.ofInts h hpa)
  have hw1 := hid (fun (w' : World) (L' : List HP) (va : Option Addr) (vc : Nat) (h : SatL w' (DskR db s :: L')) (g : Gives L' (fun w' => IsRow w' 1 va pn (fun i => [.int .i64 (Z i)]))) => crash_ok (c := vc) hZ (fun i => Nat.le_trans (hV i) (by omega)) h g)
  have hw2 := hid (fun (w' : World) (L' : List HP) (h : SatL w' (RDsk xb s :: L')) (g : Gives L' (fun w' => IsRow w' 1 pa pn (fun i => [.int .i64 (Z i)]))) => refcrash_ok (c := pc) ho hZ (fun i => Nat.le_trans (hV i) (by omega)) h g)
  have hil := intsL_len pn Z
  have hone := hid (show ∀ y ∈ intsL pn Z, y.oneCell' = true from fun y hy => by unfold intsL at hy; obtain ⟨i, _, rfl⟩ := List.mem_map.1 hy; rfl)
  generalize s.crash pn Z = s' at *
  have hK : SatL ((w.alloc (.cells #[.int .i64 4, .int .i64 p, .int .i64 N, .int .u8 b, .slice pa pn pc] 32)).alloc (.cells #[] 3)) (SlK 3 1 (.slice (some ⟨w.heap.size + 1, 0, none⟩) 0 0) 0 [] :: cl w.heap.size 32 #[.int .i64 4, .int .i64 p, .int .i64 N, .int .u8 b, .slice pa pn pc] :: DskR db s :: RDsk xb s :: L) :=
    sat_SlK.2 (.inr ⟨w.heap.size + 1, 0, 0, #[], ⟨rfl, Nat.le_refl _, by decide, rfl, by simp, rfl⟩, h1.allocN _ (by simp)⟩)
  have c4b := hcl.out _ _ hK.tail
  have hrow0 := g.next.next.next.next _ hK
  have b1 : (0 + pn) * 8 ≤ 140737488355328 := by omega
  have b2 : 0 + pn ≤ maxLen := by unfold maxLen; omega
  have hpz : pn ≤ 9223372036854775807 := by omega
  have hsrc := hs0.out _ hrow0
  have Hrow0 := hid hrow0
  have Hnl := hid hil
  clear h hZ ho hV hrow0 hpa hil
  go_enter Try.func20, Try.ntmps20
  go_wp2_with (first
    | (at_builtin; refine wpList_append_sl rfl (.tmp 58) (.tmp 60) rfl elem_int rfl hK rfl hsrc hone.out b1 b2 ?_; intro v9 w9 h9 _; have h10 := Sl.ofK h9; rw [List.nil_append] at h10; obtain ⟨ra, rc, rfl, r1, r2⟩ := Sl.valn h10 Hnl.out))
  have hs1 := sat_drew.2 h10
  have S0 := hcl.out _ _ hs1.tail
  refine GoE.start (fun w' => w'.cell? ⟨w.heap.size, 4, none⟩ = some (.slice pa pn pc)) 14 15 rfl (by kernel_rfl) ?_
  refine GoE.take (i := 0) (v := ?_) rfl (by decide) (by kernel_rfl) (by kernel_rfl) (by kernel_rfl) (by kernel_rfl) (fun _ _ _ h => h) (by rfl) ?_ (by assumption) ?_
  rotate_left
  · intro w hSw; (try dsimp only at hSw); go_simp; try (with_reducible rfl)
  try simp only [Act.put, List.setIfInBounds_toArray, List.set_cons_zero, List.set_cons_succ]
  refine GoE.take (i := 1) (v := ?_) rfl (by decide) (by kernel_rfl) (by kernel_rfl) (by kernel_rfl) (by kernel_rfl) (fun _ _ _ h => h) (by rfl) ?_ (by assumption) ?_
  rotate_left
  · intro w hSw; (try dsimp only at hSw); go_simp; try (with_reducible rfl)
  try simp only [Act.put, List.setIfInBounds_toArray, List.set_cons_zero, List.set_cons_succ]
  refine GoE.take (i := 3) (v := ?_) rfl (by decide) (by kernel_rfl) (by kernel_rfl) (by kernel_rfl) (by kernel_rfl) (fun _ _ _ h => h) (by rfl) ?_ (by assumption) ?_
  rotate_left
  · intro w hSw; (try dsimp only at hSw); go_simp; try (with_reducible rfl)
  try simp only [Act.put, List.setIfInBounds_toArray, List.set_cons_zero, List.set_cons_succ]
  refine GoE.take (i := 4) (v := ?_) rfl (by decide) (by kernel_rfl) (by kernel_rfl) (by kernel_rfl) (by kernel_rfl) (fun _ _ _ h => h) (by rfl) ?_ (by assumption) ?_
  rotate_left
  · intro w hSw; (try dsimp only at hSw); go_simp; try (with_reducible rfl)
  try simp only [Act.put, List.setIfInBounds_toArray, List.set_cons_zero, List.set_cons_succ]
  refine GoE.take (i := 5) (v := ?_) rfl (by decide) (by kernel_rfl) (by kernel_rfl) (by kernel_rfl) (by kernel_rfl) (fun _ _ _ h => h) (by rfl) ?_ (by assumption) ?_
  rotate_left
  · intro w hSw; (try dsimp only at hSw); go_simp; try (with_reducible rfl)
  try simp only [Act.put, List.setIfInBounds_toArray, List.set_cons_zero, List.set_cons_succ]
  refine GoE.one (i := 2) rfl (by kernel_rfl) (fun K hK => ?_)
  go_simp
  go_at_call 17
  (with_reducible refine (hw1.out _ _ _ _ (hs1.bring [2, 0, 1, 3]) (Sl.gives_ints hpz)).mono ?_)
  rintro e w5 ⟨v5, rfl, rfl, h5⟩; have S5 := hcl.out _ _ (h5.pull 2 : SatL _ (cl _ _ _ :: _))
  go_wp2_with fail
  refine hK.out _ _ (fun _ => S5) ?_
  clear hK K
  try simp only [Act.put, List.setIfInBounds_toArray, List.set_cons_zero, List.set_cons_succ]
  refine GoE.one (i := 6) rfl (by kernel_rfl) (fun K hK => ?_)
  go_simp
  go_at_call 29
  (with_reducible refine (hw2.out _ _ (h5.bring [3, 0, 1, 2]) g.next.next.next).mono ?_)
  rintro e w6 ⟨v6, rfl, rfl, h6⟩; have S6 := hcl.out _ _ (h6.pull 3 : SatL _ (cl _ _ _ :: _))
  go_wp2_with fail
  refine hK.out _ _ (fun _ => S6) ?_
  clear hK K
  try simp only [Act.put, List.setIfInBounds_toArray, List.set_cons_zero, List.set_cons_succ]
  refine GoE.take (i := 7) (v := ?_) rfl (by decide) (by kernel_rfl) (by kernel_rfl) (by kernel_rfl) (by kernel_rfl) (fun _ _ _ h => h) (by rfl) ?_ (by assumption) ?_
  rotate_left
  · intro w hSw; (try dsimp only at hSw); go_simp; try (with_reducible rfl)
  try simp only [Act.put, List.setIfInBounds_toArray, List.set_cons_zero, List.set_cons_succ]
  refine GoE.take (i := 8) (v := ?_) rfl (by decide) (by kernel_rfl) (by kernel_rfl) (by kernel_rfl) (by kernel_rfl) (fun _ _ _ h => h) (by rfl) ?_ (by assumption) ?_
  rotate_left
  · intro w hSw; (try dsimp only at hSw); go_simp; try (with_reducible rfl)
  try simp only [Act.put, List.setIfInBounds_toArray, List.set_cons_zero, List.set_cons_succ]
  refine GoE.take (i := 9) (v := ?_) rfl (by decide) (by kernel_rfl) (by kernel_rfl) (by kernel_rfl) (by kernel_rfl) (fun _ _ _ h => h) (by rfl) ?_ (by assumption) ?_
  rotate_left
  · intro w hSw; (try dsimp only at hSw); go_simp; try (with_reducible rfl)
  try simp only [Act.put, List.setIfInBounds_toArray, List.set_cons_zero, List.set_cons_succ]
  refine GoE.take (i := 10) (v := ?_) rfl (by decide) (by kernel_rfl) (by kernel_rfl) (by kernel_rfl) (by kernel_rfl) (fun _ _ _ h => h) (by rfl) ?_ (by assumption) ?_
  rotate_left
  · intro w hSw; (try dsimp only at hSw); go_simp; try (with_reducible rfl)
  try simp only [Act.put, List.setIfInBounds_toArray, List.set_cons_zero, List.set_cons_succ]
  refine GoE.take (i := 11) (v := ?_) rfl (by decide) (by kernel_rfl) (by kernel_rfl) (by kernel_rfl) (by kernel_rfl) (fun _ _ _ h => h) (by rfl) ?_ (by assumption) ?_
  rotate_left
  · intro w hSw; (try dsimp only at hSw); go_simp; try (with_reducible rfl)
  try simp only [Act.put, List.setIfInBounds_toArray, List.set_cons_zero, List.set_cons_succ]
  have hsi := sameints_ok (c := rc) (d := pc) (h6.bring [2, 1, 0, 3]) (Sl.gives_ints hpz) g.next.next.next.next
  refine GoE.one (i := 12) rfl (by kernel_rfl) (fun K hK => ?_)
  go_simp
  go_at_call 30
  (with_reducible refine (hsi).mono ?_)
  rintro e w7 ⟨v7, rfl, rfl, h7⟩; have S7 := hcl.out _ _ (h7.pull 3 : SatL _ (cl _ _ _ :: _))
  go_wp2_with fail
  refine hK.out _ _ (fun _ => S7) ?_
  clear hK K
  try simp only [Act.put, List.setIfInBounds_toArray, List.set_cons_zero, List.set_cons_succ]
  refine GoE.take (i := 13) (v := ?_) rfl (by decide) (by kernel_rfl) (by kernel_rfl) (by kernel_rfl) (by kernel_rfl) (fun _ _ _ h => h) (by rfl) ?_ (by assumption) ?_
  rotate_left
  · intro w hSw; (try dsimp only at hSw); go_simp; try (with_reducible rfl)
  try simp only [Act.put, List.setIfInBounds_toArray, List.set_cons_zero, List.set_cons_succ]
  refine GoE.one (i := 14) rfl (by kernel_rfl) (fun K hK => ?_)
  go_simp
  refine hK.out _ _ (fun h => absurd rfl h) ?_
  clear hK K
  try simp only [Act.put, List.setIfInBounds_toArray, List.set_cons_zero, List.set_cons_succ]
  refine GoE.done (by kernel_rfl) ?_
  go_wp2
  go_ret
  exact Ret.mk ⟨rfl, SatL.tail (SatL.tail (h7.bring [0, 3, 1, 2]))⟩
set_option maxRecDepth 100000 in
set_option maxHeartbeats 2000000 in
theorem done_read {kd p N : Int} {b pn pc : Nat} {pa : Option Addr} (hk : ¬ kd = 1 ∧ ¬ kd = 3 ∧ ¬ kd = 4) (hr : I64 p ∧ I64 N) (hV : ∀ i, (s.V i).length ≤ 100000) (h : SatL w (DskR db s :: RDsk xb s :: L)) :
    Calls Try.prog 20 #[.pointer (some ⟨db, 0, none⟩), .pointer (some ⟨xb, 0, none⟩), .agg #[.int .i64 kd, .int .i64 p, .int .i64 N, .int .u8 b, .slice pa pn pc]] w
      (Ret fun r w' => r = .bool true ∧ SatL w' (DskR db s :: RDsk xb s :: L)) := by
  have h1 := h.alloc (.cells #[.int .i64 kd, .int .i64 p, .int .i64 N, .int .u8 b, .slice pa pn pc] 32)
  have hcl := hid (fun (w' : World) (L' : List HP) (h : SatL w' (cl w.heap.size 32 #[.int .i64 kd, .int .i64 p, .int .i64 N, .int .u8 b, .slice pa pn pc] :: L')) => h.cell (i := 1) (v := .int .i64 p) rfl)
  have c0 := SatL.cell h1 (i := 0) (v := .int .i64 kd) rfl
  have c1 := hcl.out _ _ h1
  have c2 := SatL.cell h1 (i := 2) (v := .int .i64 N) rfl
  obtain ⟨k1, k2, k3⟩ := hk
  obtain ⟨M, hM⟩ : ∃ M : Int, M = if 200 < N then 200 else N := ⟨_, rfl⟩
  have hrM : I64 M := by rw [hM]; have := hr.2; split <;> omega
  have hw1 := hid (fun (w' : World) (L' : List HP) (h : SatL w' (DskR db s :: L')) => readx_ok ⟨hr.1, hrM⟩ (fun i => Nat.le_trans (hV i) (by omega)) h)
  have hw2 := hid (fun (w' : World) (L' : List HP) (h : SatL w' (RDsk xb s :: L')) => refreadx_ok ⟨hr.1, hrM⟩ (fun i => Nat.le_trans (hV i) (by omega)) h)
  generalize s.rdx p M = J at *
  obtain ⟨bs, z⟩ := J
  simp only at *
  clear h hr hV hrM
  have go : ∀ (N' : Int), N' = M → True := fun _ _ => trivial
  by_cases hb : 200 < N
  · rw [if_pos hb] at hM
    subst hM
    go_enter Try.func20, Try.ntmps20
    go_wp2_with (first
      | (go_at_call 13; (with_reducible refine (hw1.out _ _ (h1.bring [1, 0, 2])).mono ?_); rintro e w2 ⟨v, rfl, v2, rfl, h2⟩; obtain ⟨ra, rc, rfl, r1, r2⟩ := SlB.valn h2; have d1 := hcl.out _ _ (h2.pull 2 : SatL _ (cl _ _ _ :: _)))
      | (go_at_call 31; (with_reducible refine (hw2.out _ _ (h2.bring [3, 0, 1, 2])).mono ?_); rintro e w3 ⟨v, rfl, v3, rfl, h3⟩; obtain ⟨rb, rd, rfl, r3, r4⟩ := SlB.valn h3; have x1 := RdB.conv (SlB.rd h3); have x2 := RdB.conv (SlB.rd (h3.pull 2 : SatL _ (SlB _ _ _ :: _)))))
    have h4 := SatL.tail (SatL.tail (SatL.tail (h3.bring [0, 2, 4, 3, 1])))
    clear h3 h2 h1 d1 c1 c2 c0 hw1 hw2 hcl
    generalize (⟨bs.toArray⟩ : ByteArray) = sb at *
    go_wp2
    go_ret
    exact Ret.mk ⟨rfl, h4⟩
  · rw [if_neg hb] at hM
    subst hM
    go_enter Try.func20, Try.ntmps20
    go_wp2_with (first
      | (go_at_call 13; (with_reducible refine (hw1.out _ _ (h1.bring [1, 0, 2])).mono ?_); rintro e w2 ⟨v, rfl, v2, rfl, h2⟩; obtain ⟨ra, rc, rfl, r1, r2⟩ := SlB.valn h2; have d1 := hcl.out _ _ (h2.pull 2 : SatL _ (cl _ _ _ :: _)))
      | (go_at_call 31; (with_reducible refine (hw2.out _ _ (h2.bring [3, 0, 1, 2])).mono ?_); rintro e w3 ⟨v, rfl, v3, rfl, h3⟩; obtain ⟨rb, rd, rfl, r3, r4⟩ := SlB.valn h3; have x1 := RdB.conv (SlB.rd h3); have x2 := RdB.conv (SlB.rd (h3.pull 2 : SatL _ (SlB _ _ _ :: _)))))
    have h4 := SatL.tail (SatL.tail (SatL.tail (h3.bring [0, 2, 4, 3, 1])))
    clear h3 h2 h1 d1 c1 c2 c0 hw1 hw2 hcl
    generalize (⟨bs.toArray⟩ : ByteArray) = sb at *
    go_wp2
    go_ret
    exact Ret.mk ⟨rfl, h4⟩
/-- what stands behind a call -/
def Dsk.dn (s : Dsk) (kd p N : Int) (b n : Nat) (Z : Nat → Int) : Dsk := if kd = 1 then (s.wrx p (rowL b N)).2 else if kd = 3 then s.flushed else if kd = 4 then s.crash n Z else s
theorem done_ok {kd p N : Int} {b pn pc : Nat} {pa : Option Addr} {Z : Nat → Int} (hb : b < 256) (hr : I64 p ∧ I64 N) (hpn : pn ≤ 17592186044416) (hpa : pn = 0 → pa = none → pc = 0) (hZ : ∀ i, i < pn → -9223372036854775808 ≤ Z i ∧ Z i ≤ 9223372036854775807) (ho : ∀ i, s.n ≤ i → s.V i = []) (hV : ∀ i, (s.V i).length ≤ 100000) (h : SatL w (DskR db s :: RDsk xb s :: L)) (g : Gives L (fun w' => IsRow w' 1 pa pn (fun i => [.int .i64 (Z i)]))) :
    Calls Try.prog 20 #[.pointer (some ⟨db, 0, none⟩), .pointer (some ⟨xb, 0, none⟩), .agg #[.int .i64 kd, .int .i64 p, .int .i64 N, .int .u8 b, .slice pa pn pc]] w
      (Ret fun r w' => r = .bool true ∧ SatL w' (DskR db (s.dn kd p N b pn Z) :: RDsk xb (s.dn kd p N b pn Z) :: L)) := by
  unfold Dsk.dn
  split
  · rename_i h1; subst h1
    exact done_write hb hr hV h
  · split
    · rename_i h1; subst h1
      exact done_flush hV h
    · split
      · rename_i h1; subst h1
        exact done_crash hpn hpa hZ ho hV h g
      · exact done_read ⟨by assumption, by assumption, by assumption⟩ hr hV h
theorem wrx_n (s : Dsk) (p : Int) (bs : List UInt8) : (s.wrx p bs).2.n = s.n := by unfold Dsk.wrx; split; rfl; split <;> rfl
theorem dn_n (s : Dsk) (kd p N : Int) (b n : Nat) (Z : Nat → Int) : (s.dn kd p N b n Z).n = s.n := by unfold Dsk.dn; split; exact wrx_n _ _ _; split; rfl; split <;> rfl
theorem wrx_V {s : Dsk} {p : Int} {bs : List UInt8} (ho : ∀ i, s.n ≤ i → s.V i = []) {m : Nat} (hV : ∀ i, (s.V i).length ≤ m) : (∀ i, s.n ≤ i → (s.wrx p bs).2.V i = []) ∧ ∀ i, ((s.wrx p bs).2.V i).length ≤ m + 1 := by
  have h0 : (∀ i, s.n ≤ i → s.V i = []) ∧ ∀ i, (s.V i).length ≤ m + 1 := ⟨ho, fun i => Nat.le_succ_of_le (hV i)⟩
  unfold Dsk.wrx
  split
  · exact h0
  · split
    · rename_i h1
      refine ⟨fun i hi => ?_, fun i => ?_⟩
      · show (if _ then _ else _) = _
        rw [if_neg (by omega)]; exact ho i hi
      · show (if _ then _ else _ : List (List UInt8)).length ≤ _
        split
        · rw [List.length_append]; have := hV i; simp; omega
        · have := hV i; omega
    · exact h0
theorem dn_V {s : Dsk} {kd p N : Int} {b n : Nat} {Z : Nat → Int} (ho : ∀ i, s.n ≤ i → s.V i = []) {m : Nat} (hV : ∀ i, (s.V i).length ≤ m) : (∀ i, s.n ≤ i → (s.dn kd p N b n Z).V i = []) ∧ ∀ i, ((s.dn kd p N b n Z).V i).length ≤ m + 1 := by
  unfold Dsk.dn
  split
  · exact wrx_V ho hV
  · split
    · exact ⟨fun _ _ => rfl, fun _ => Nat.zero_le _⟩
    · split
      · exact ⟨fun _ _ => rfl, fun _ => Nat.zero_le _⟩
      · exact ⟨ho, fun i => Nat.le_succ_of_le (hV i)⟩
end
end Go.Proofs.Ytjjiljijcigekaa
