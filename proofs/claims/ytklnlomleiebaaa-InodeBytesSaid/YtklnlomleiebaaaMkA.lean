/- Set, Entry, Root of the document's chapter 9. -/
import Derived.Test.YtklnlomleiebaaaBits
import Derived.Test.YtklnlomleiebaaaVolB
import Derived.Test.YtklnlomleiebaaaConst
import Derived.RegionTactic
import Derived.BigRegion
namespace Go.Proofs.Ytklnlomleiebaaa
set_option linter.unusedVariables false
set_option linter.unusedSimpArgs false
open Go.RowKit
def UnitPost (l : List HP) (v : Value) (w : World) : Prop := v = .tuple #[] ∧ SatL w l

theorem pow_small (s : Nat) (hs : s < 8) : (2 : Int) ^ s % 256 = ((2 ^ s : Nat) : Int) ∧ 2 ^ s < 256 := by
  rcases (by omega : s = 0 ∨ s = 1 ∨ s = 2 ∨ s = 3 ∨ s = 4 ∨ s = 5 ∨ s = 6 ∨ s = 7) with rfl | rfl | rfl | rfl | rfl | rfl | rfl | rfl <;> decide
theorem or_bit (x s : Nat) (hx : x < 2 ^ 8) (hs : s < 8) : bits .or .u8 (x : Int) ((2 : Int) ^ s % 256) = (((UInt8.ofNat (x ||| 2 ^ s)).toNat : Nat) : Int) := by
  obtain ⟨h1, h2⟩ := pow_small s hs
  rw [h1, u8_or_nat x (2 ^ s) (by omega) h2]
  have : x ||| 2 ^ s < 2 ^ 8 := Nat.or_lt_two_pow hx (by omega)
  rw [UInt8.toNat_ofNat', Nat.mod_eq_of_lt this]

section
variable {w : World} {L : List HP}
set_option maxHeartbeats 1000000 in
theorem set_ok {v : Value} {n i : Nat} {P : Nat → Bool} (hi : i < 8 * n) (hn : n ≤ 100000) (h : SatL w (SlB 5 v (bitsN n P) :: L)) :
    Calls Try.prog 39 #[v, .int .i64 i] w (Ret (UnitPost (SlB 5 v (bitsN n (fun j => P j || j == i)) :: L))) := by
  obtain ⟨a, c, rfl, g1, g2⟩ := Sl.valn h (m := n) (by rw [bvs_len, bitsN_len])
  obtain ⟨b, off, rfl⟩ := Sl.addr h (by omega)
  have hq8 : i / 8 < n := by omega
  have hc := SlB.cell h (i := i / 8) (by rw [bitsN_len]; exact hq8)
  rw [bitsN_getD P hq8] at hc
  have hf := Sl.free h (off + i / 8)
  have Hs := hid (bitsN_set (n := n) P hi)
  have Hset := hid (fun (x : Value) => Sl.set h (i := i / 8) (by rw [bvs_len, bitsN_len]; exact hq8) x)
  have hx := bsum_lt 8 (fun t => P (8 * (i / 8) + t))
  rw [← bitByte_nat] at hx
  have e1 : (i : Int) / 8 = ((i / 8 : Nat) : Int) := rfl
  have e2 : (i : Int) % 8 = ((i % 8 : Nat) : Int) := rfl
  have e3 : i % 8 < 8 := Nat.mod_lt _ (by omega)
  have e4 : ((i / 8 : Nat) : Int) < n := by omega
  generalize (bitByte P (i / 8)).toNat = x at *
  generalize hq : i / 8 = q at *
  generalize hs : i % 8 = s at *
  clear hi h hq8 hq hs
  go_enter Try.func39, Try.ntmps39
  go_wp2
  go_region
  go_end0
  refine Ret.mk ⟨rfl, ?_⟩
  have h7 := sat_drew.2 (Hset.out (.int .u8 (bits .or .u8 (x : Int) ((2 : Int) ^ s % 256))))
  rw [or_bit x s hx e3] at h7
  rw [or_bit x s hx e3]
  rw [← Hs.out]
  show SatL _ (Sl _ _ (((bitsN n P).set q (UInt8.ofNat (x ||| 2 ^ s))).map bv) :: L)
  rw [List.map_set]
  exact h7

theorem entry_ok {i : Nat} {s : ByteArray} (hi : i < 4294967296) (hs0 : s.size < 20) (h : SatL w L) :
    Calls Try.prog 42 #[.int .i64 i, .string s] w (Ret fun v w' => SatL w' (SlB 5 v (lowb 4 i ++ [byteOf s.size] ++ s.data.toList ++ List.replicate (32 - (5 + s.size)) 0) :: L)) := by
  have w4 := u64_in i (by omega)
  have h0 := Sl_nil (T := 5) h
  have hl1 := low_ok (bs := []) (k := 4) (x := i) (by omega) (by omega) (Nat.zero_le _) h0
  rw [List.nil_append] at hl1
  have hl1' : Calls Try.prog 46 #[.slice none 0 0, .int .i64 4, .int .u64 i] w (Ret fun v' w' => SatL w' (SlB 5 v' (lowb 4 i) :: L)) := hl1
  have hw8 : IntKind.u8.wrap (s.size : Int) = ((byteOf s.size).toNat : Int) := byte_cast s.size
  have b8 : 0 < 1 := by omega
  have b1 : ((bvs (lowb 4 i)).length + 1) * 1 ≤ 140737488355328 := by rw [bvs_len, lowb_len]; omega
  have hl2 : (bvs (lowb 4 i ++ [byteOf s.size])).length = 5 := by rw [bvs_len, List.length_append, lowb_len]; rfl
  have hl3 : (bvs (lowb 4 i ++ [byteOf s.size] ++ s.data.toList)).length = 5 + s.size := by rw [bvs_len, List.length_append, List.length_append, lowb_len, Array.length_toList]; show 4 + 1 + s.data.size = 5 + s.data.size; omega
  have hl4 : (lowb 4 i ++ [byteOf s.size] ++ s.data.toList).length ≤ 1000000000 := by rw [bvs_len] at hl3; omega
  have b2 : (5 + s.size) * 1 ≤ 140737488355328 := by omega
  have b3 : 5 + s.size ≤ maxLen := by unfold maxLen; omega
  have hsrc : ∀ w : World, SrcOk Try.prog 9 1 w (.string s) s.size (bvs s.data.toList) := fun w => ⟨by rw [bvs_len, Array.length_toList, Nat.mul_one]; rfl, .inr (.inr ⟨s, rfl, rfl, by kernel_rfl, rfl, rfl⟩)⟩
  have hzz : (32 : Int) - (5 + s.size : Nat) ≤ 1000000000 := by omega
  have Hr := hid (show ((32 : Int) - ((5 + s.size : Nat) : Int)).toNat = 32 - (5 + s.size) by omega)
  clear h0 hl1
  go_enter Try.func42, Try.ntmps42
  go_wp2_with (first
    | (go_at_call 46; (with_reducible refine hl1'.mono ?_); rintro e w1 ⟨v, rfl, hs1⟩; have t0 : True := trivial)
    | (have _t := t0; at_builtin; refine wpList_push_sl rfl (.tmp 8) (.tmp 12) rfl elem_byte b8 rfl hs1 rfl rfl b1 ?_; intro v2 w2 h2; clear t0; have t1 : True := trivial; have hs2 := SlB.snoc (b := byteOf s.size) h2)
    | (have _t := t1; at_builtin; refine wpList_append_sl rfl (.tmp 14) (.tmp 15) rfl elem_byte rfl (Sl.toK hs2 hl2) rfl (hsrc _) (bvs_one _) b2 b3 ?_; intro v3 w3 h3 _; clear t1; have hs3 := SlB.app (Sl.ofK h3); obtain ⟨a3, c3, rfl, q1, q2⟩ := Sl.valn hs3 (m := 5 + s.size) hl3)
    | (go_at_call 40; (refine (noughts_ok hzz hl4 hs3).mono ?_); rintro e w4 ⟨v, rfl, hs4⟩))
  go_ret
  rw [Hr.out] at hs4
  exact Ret.mk hs4

def stampB (sec nsec : Nat) : List UInt8 := lowb 4 sec ++ lowb 4 nsec
def rootHead : List UInt8 := [2, 0] ++ lowb 2 493 ++ lowb 2 2 ++ lowb 2 0 ++ lowb 4 0 ++ lowb 4 0 ++ lowb 4 1 ++ lowb 4 0 ++ lowb 8 64 ++ lowb 8 0
def stamps (j sec nsec : Nat) : List UInt8 := (List.replicate j (stampB sec nsec)).flatten
def rootB (d sec nsec : Nat) : List UInt8 := rootHead ++ stamps 3 sec nsec ++ lowb 4 d ++ List.replicate 60 0
theorem rootHead_len : rootHead.length = 40 := by simp only [rootHead, List.length_append, lowb_len, List.length_cons, List.length_nil]
theorem stamps_len (j sec nsec : Nat) : (stamps j sec nsec).length = 8 * j := by
  unfold stamps
  rw [List.length_flatten, List.map_replicate, List.sum_replicate_nat]
  simp only [stampB, List.length_append, lowb_len]; omega
theorem stamps_succ (j sec nsec : Nat) : stamps (j + 1) sec nsec = stamps j sec nsec ++ lowb 4 sec ++ lowb 4 nsec := by
  unfold stamps
  rw [List.replicate_succ', List.flatten_append]
  simp [stampB]

theorem low_okI {v : Value} {bs : List UInt8} (k x : Int) (h : SatL w (SlB 5 v bs :: L)) (hk : 0 ≤ k ∧ k ≤ 8) (hx : 0 ≤ x ∧ x < 18446744073709551616) (hb : bs.length ≤ 1000000000) :
    Calls Try.prog 46 #[v, .int .i64 k, .int .u64 x] w (Ret fun v' w' => SatL w' (SlB 5 v' (bs ++ lowb k.toNat x.toNat) :: L)) := by
  have := low_ok (k := k.toNat) (x := x.toNat) (by omega) (by omega) hb h
  rw [show ((k.toNat : Nat) : Int) = k by omega, show ((x.toNat : Nat) : Int) = x by omega] at this
  exact this
theorem SlB.ofCl {b n : Nat} {l : List UInt8} {cs : Array Value} (hcs : cs = (bvs l).toArray) (hn : n = l.length) (hm : n ≤ 1000000) (h : SatL w (cl b 5 cs :: L)) : SatL w (SlB 5 (.slice (some ⟨b, 0, none⟩) n n) l :: L) := by
  subst hcs; subst hn
  refine Sl.ofK (n := l.length) (sat_SlK.2 (.inr ⟨b, 0, l.length, _, ⟨rfl, Nat.le_refl _, by unfold maxLen; omega, by simp, by simp, by simp only [List.drop_zero, Nat.mul_one]; rw [← bvs_len l]; exact List.take_length⟩, h⟩))

set_option maxRecDepth 100000 in
set_option maxHeartbeats 4000000 in
theorem root_ok {d sec nsec : Nat} (hd : d < 4294967296) (h1 : sec < 4294967296) (h2 : nsec < 4294967296) (b i t : Int) (h : SatL w L) :
    Calls Try.prog 41 #[planV b i t d, .agg #[.int .u32 sec, .int .u32 nsec]] w (Ret fun v w' => SatL w' (SlB 5 v (rootB d sec nsec) :: L)) := by
  have w3 := u64_in sec (by omega)
  have w4 := u64_in nsec (by omega)
  have w5 := u64_in d (by omega)
  have k1 := h.alloc (.cells #[.int .i64 b, .int .i64 i, .int .i64 1, .int .i64 2, .int .i64 68, .int .i64 69, .int .i64 t, .int .i64 d] 98)
  have k2 := k1.allocN (n := w.heap.size + 1) (.cells #[.int .u32 sec, .int .u32 nsec] 28) (by simp)
  have k3 := k2.allocN (n := w.heap.size + 1 + 1) (.cells #[.int .u8 2, .int .u8 0] 5) (by simp)
  have k4 := SlB.ofCl (n := 2) (l := [2, 0]) rfl rfl (by omega) k3
  unfold planV
  clear k1 k2 k3 h
  go_enter Try.func41, Try.ntmps41
  go_wp2_with (go_at_call 46; (refine (low_okI _ _ (by assumption) (by omega) (by omega) (by simp only [List.length_append, lowb_len, List.length_cons, List.length_nil, Int.reduceToNat]; omega)).mono ?_); rintro e w' ⟨v, rfl, hs⟩)
  have hs0 : SatL w' (SlB 5 v (rootHead ++ stamps 0 sec nsec) :: cl (w.heap.size + 1) 28 #[.int .u32 sec, .int .u32 nsec] :: cl w.heap.size 98 #[.int .i64 b, .int .i64 i, .int .i64 1, .int .i64 2, .int .i64 68, .int .i64 69, .int .i64 t, .int .i64 d] :: L) := by
    rw [show rootHead ++ stamps 0 sec nsec = rootHead by simp [stamps]]
    exact hs
  go_loopw [5, 6] (fun bv i' wr => ∃ j : Nat, j ≤ 3 ∧ i' = .int .i64 j ∧ SatL wr (SlB 5 bv (rootHead ++ stamps j sec nsec) :: cl (w.heap.size + 1) 28 #[.int .u32 sec, .int .u32 nsec] :: cl w.heap.size 98 #[.int .i64 b, .int .i64 i, .int .i64 1, .int .i64 2, .int .i64 68, .int .i64 69, .int .i64 t, .int .i64 d] :: L)) (fun _ i' _ => 3 - (intOf i').toNat)
  case atStart => exact ⟨0, by omega, rfl, hs0⟩
  case round =>
    obtain ⟨j, hj, rfl, hs1⟩ := hrel
    by_cases hlt : j < 3
    · have hs2 := sat_drew.2 hs1
      have c0 : wr.drew.cell? ⟨w.heap.size + 1, 0, none⟩ = some (.int .u32 sec) := (hs2.pull 1 : SatL _ (cl _ _ _ :: _)).cell (i := 0) rfl
      have c1 : wr.drew.cell? ⟨w.heap.size + 1, 1, none⟩ = some (.int .u32 nsec) := (hs2.pull 1 : SatL _ (cl _ _ _ :: _)).cell (i := 1) rfl
      have Hst := hid (stamps_succ j sec nsec)
      have hl0 := stamps_len j sec nsec
      clear hs hs0 hs1
      go_wp2_with (fail "stop")
      go_region_held3 (fun w' => w'.cell? ⟨w.heap.size + 1, 0, none⟩ = some (.int .u32 sec) ∧ w'.cell? ⟨w.heap.size + 1, 1, none⟩ = some (.int .u32 nsec))
        (first | exact ⟨c0, c1⟩ | go_keep)
        (first
          | (go_at_call 46; (refine (low_okI _ _ (by assumption) (by omega) (by omega) (by simp only [List.length_append, lowb_len, rootHead_len, stamps_len, Int.reduceToNat]; omega)).mono ?_); rintro e w4 ⟨v4, rfl, hs4⟩; have c0 : w4.cell? ⟨w.heap.size + 1, 0, none⟩ = some (.int .u32 sec) := (hs4.pull 1 : SatL _ (cl _ _ _ :: _)).cell (i := 0) rfl; have c1 : w4.cell? ⟨w.heap.size + 1, 1, none⟩ = some (.int .u32 nsec) := (hs4.pull 1 : SatL _ (cl _ _ _ :: _)).cell (i := 1) rfl)
          | fail "no")
      go_wp2
      go_roundw
      case rel => exact ⟨j + 1, by omega, by go_num, by rw [Hst.out, ← List.append_assoc, ← List.append_assoc]; exact hs4⟩
      case measure => simp [intOf]; omega
    · obtain rfl : j = 3 := by omega
      have c7 : wr.cell? ⟨w.heap.size, 7, none⟩ = some (.int .i64 d) := (hs1.pull 2 : SatL _ (cl _ _ _ :: _)).cell (i := 7) rfl
      have hl4 : (rootHead ++ stamps 3 sec nsec ++ lowb 4 d).length = 68 := by simp only [List.length_append, lowb_len, rootHead_len, stamps_len]
      clear hs hs0
      go_wp2_with (first
        | (go_at_call 46; (refine (low_okI 4 d hs1 (by omega) (by omega) (by simp only [List.length_append, lowb_len, rootHead_len, stamps_len, Int.reduceToNat]; omega)).mono ?_); rintro e w5 ⟨v5, rfl, hs5⟩; have hs6 : SatL w5 (SlB 5 v5 (rootHead ++ stamps 3 sec nsec ++ lowb 4 d) :: _) := hs5; obtain ⟨a5, c5, rfl, q1, q2⟩ := Sl.valn hs6 (m := 68) (by rw [bvs_len, hl4]))
        | (go_at_call 40; (refine (noughts_ok (by omega) (by rw [hl4]; omega) hs6).mono ?_); rintro e w6 ⟨v6, rfl, hs7⟩))
      go_ret
      have hs8 : SatL w6 (SlB 5 v6 (rootHead ++ stamps 3 sec nsec ++ lowb 4 d ++ List.replicate (Int.toNat 60) 0) :: L) := hs7.to
      exact Ret.mk hs8
end
end Go.Proofs.Ytklnlomleiebaaa
