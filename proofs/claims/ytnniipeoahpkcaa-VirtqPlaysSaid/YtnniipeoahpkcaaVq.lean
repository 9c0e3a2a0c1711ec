/- A queue's ring: Size, next, avail, back, get, set. No condition beside the sizes that each names. -/
import Derived.Test.YtnniipeoahpkcaaNumF
import Derived.Test.YtnniipeoahpkcaaNumH
import Derived.Test.YtnniipeoahpkcaaCopy
import Derived.Test.YtnniipeoahpkcaaMapF
import Derived.Test.YtnniipeoahpkcaaRegE
import Derived.Test.YtnniipeoahpkcaaStore
import Derived.Test.YtnniipeoahpkcaaPush
namespace Go.Proofs.Ytnniipeoahpkcaa
set_option linter.unusedVariables false
set_option linter.unusedSimpArgs false
open Go.RowKit
/-- a number that lies in memory -/
def lget (m : List UInt8) (a k : Nat) : Nat := leN ((m.drop a).take k)
/-- a number is laid down -/
def lset (m : List UInt8) (a k v : Nat) : List UInt8 := m.take a ++ lowb k v ++ m.drop (a + k)
theorem lset_len {m : List UInt8} {a k v : Nat} (h : a + k ≤ m.length) : (lset m a k v).length = m.length := by
  unfold lset; rw [List.length_append, List.length_append, List.length_take, List.length_drop, lowb_len]; omega
theorem bvs_lset (m : List UInt8) (a k v : Nat) : (bvs m).take a ++ bvs (lowb k v) ++ (bvs m).drop (a + k) = bvs (lset m a k v) := by
  unfold lset bvs; simp [List.map_append, List.map_take, List.map_drop]
theorem lget_lt (m : List UInt8) (a k : Nat) : lget m a k < 256 ^ k := by
  unfold lget
  refine Nat.lt_of_lt_of_le (leN_lt _) (Nat.pow_le_pow_right (by omega) ?_)
  rw [List.length_take]; omega
theorem lget_lset {m : List UInt8} {a k v : Nat} (h : a + k ≤ m.length) (hv : v < 256 ^ k) : lget (lset m a k v) a k = v := by
  unfold lget lset
  rw [List.append_assoc, List.drop_append_of_le_length (by simp; omega)]
  rw [show (m.take a).drop a = [] by simp, List.nil_append, List.take_append_of_le_length (by rw [lowb_len]; omega), List.take_of_length_le (by rw [lowb_len]; omega), leN_lowb, Nat.mod_eq_of_lt hv]
theorem lget_off {m : List UInt8} {a k v b j : Nat} (h : a + k ≤ m.length) (hd : b + j ≤ a ∨ a + k ≤ b) : lget (lset m a k v) b j = lget m b j := by
  unfold lget lset
  congr 1
  refine List.ext_getElem? fun i => ?_
  rw [List.getElem?_take, List.getElem?_take]
  split
  · rename_i hi
    rw [List.getElem?_drop, List.getElem?_drop]
    rcases hd with hd | hd
    · rw [List.append_assoc, List.getElem?_append_left (by rw [List.length_take]; omega), List.getElem?_take, if_pos (by omega)]
    · rw [List.getElem?_append_right (by rw [List.length_append, List.length_take, lowb_len]; omega), List.length_append, List.length_take, lowb_len, List.getElem?_drop]
      congr 1; omega
  · rfl
def pow2 (n : Nat) : Bool := n == 1 || n == 2 || n == 4 || n == 8 || n == 16 || n == 32 || n == 64 || n == 128 || n == 256
/-- how many bytes a queue has -/
def qsize (n : Int) : Nat := if 0 ≤ n ∧ pow2 n.toNat = true then 8 + 26 * n.toNat else 0
theorem pow2_le {n : Nat} (h : pow2 n = true) : 1 ≤ n ∧ n ≤ 256 := by
  unfold pow2 at h; simp at h; omega
theorem pow2_bits : ∀ k : Fin 256, (bits .and .i64 ((k.val + 1 : Nat) : Int) (((k.val + 1 : Nat) : Int) - 1) = 0) ↔ pow2 (k.val + 1) = true := by decide +kernel
theorem pow2_bits' {n : Nat} (h : 1 ≤ n ∧ n ≤ 256) : (bits .and .i64 (n : Int) ((n : Int) - 1) = 0) ↔ pow2 n = true := by
  have := pow2_bits ⟨n - 1, by omega⟩
  simp only at this
  rwa [show n - 1 + 1 = n by omega] at this
section
variable {P : Program} {w : World} {l : List HP} {T bytes n : Nat} {zs xs ys : List Value}
theorem wpList_copy_at {ops : Array Oper} {rest : List Oper} {o : Oper} {a : Act} {Q : Exit → Act → World → Prop} (hgd : o.guard = none) (s x : Operand) {t u : Nat}
    (ho : o.op = .call { callee := .builtin .copy, args := #[s, x], argTypes := #[t, u] }) (E : ElemOk P t T 1 bytes zs) {b off cap i c d q : Nat} (hs : a.eval s = .slice (some ⟨b, q, none⟩) d c)
    (h : SatL w (Sl T (.slice (some ⟨b, off, none⟩) n cap) xs :: l)) (hq : q = off + i) {y : Value} (hy : a.eval x = y) {m : Nat} (hx : SrcOk P u 1 w y m ys)
    (h1 : ∀ y ∈ ys, y.oneCell' = true) (him : i + m ≤ n) (hmd : m ≤ d)
    (K : ∀ w', SatL w' (Sl T (.slice (some ⟨b, off, none⟩) n cap) (xs.take i ++ ys ++ xs.drop (i + m)) :: l) → wpList P ops Q rest (a.put o.dst (.int .i64 m)) w') : wpList P ops Q (o :: rest) a w := by
  subst hq
  exact wpList_copy_sl hgd s x ho E hs h hy hx h1 him hmd K
end
section
variable {w : World} {L : List HP}
theorem vsize_ok (n : Int) (w : World) : Calls Try.prog 9 #[.int .i64 n] w (Ret fun r w' => r = .int .i64 (qsize n : Nat) ∧ w = w') := by
  by_cases h0 : n < 1
  · have e : qsize n = 0 := by
      unfold qsize; rw [if_neg]; rintro ⟨h1, h2⟩; have := pow2_le h2; omega
    rw [e]
    go_enter Try.func9, Try.ntmps9
    go_wp2
    go_ret
    exact Ret.mk ⟨rfl, rfl⟩
  · obtain ⟨k, rfl⟩ := Int.eq_ofNat_of_zero_le (show 0 ≤ n by omega)
    by_cases h1 : 256 < k
    · have e : qsize (k : Int) = 0 := by
        unfold qsize; rw [if_neg]; rintro ⟨_, h2⟩; have := pow2_le h2; omega
      rw [e]
      have h2 : (256 : Int) < k := by omega
      go_enter Try.func9, Try.ntmps9
      go_wp2
      go_ret
      exact Ret.mk ⟨rfl, rfl⟩
    · have hb := pow2_bits' (n := k) (by omega)
      have h2 : ¬ (256 : Int) < k := by omega
      by_cases hp : pow2 k = true
      · have e : qsize (k : Int) = 8 + 26 * k := by
          unfold qsize; rw [if_pos ⟨by omega, hp⟩]; rfl
        rw [e]
        have hb2 := hb.2 hp
        have e2 : ((8 + 26 * k : Nat) : Int) = 8 + 26 * (k : Int) := by omega
        clear hb hp e
        rw [e2]
        go_enter Try.func9, Try.ntmps9
        go_wp2
        go_ret
        exact Ret.mk ⟨rfl, rfl⟩
      · have e : qsize (k : Int) = 0 := by
          unfold qsize; rw [if_neg]; rintro ⟨_, h2⟩; exact hp h2
        rw [e]
        have hb2 : ¬ _ := fun h => hp (hb.1 h)
        clear hb hp e
        go_enter Try.func9, Try.ntmps9
        go_wp2
        go_ret
        exact Ret.mk ⟨rfl, rfl⟩
theorem vnext_ok {k : Nat} (hk : k < 65536) (w : World) : Calls Try.prog 27 #[.int .i64 k] w (Ret fun r w' => r = .int .i64 ((k + 1) % 65536 : Nat) ∧ w = w') := by
  obtain ⟨r, hr⟩ : ∃ r : Nat, r = (k + 1) % 65536 := ⟨_, rfl⟩
  rw [← hr]
  have e : Int.tmod ((k : Int) + 1) 65536 = (r : Int) := by rw [Int.tmod_eq_emod_of_nonneg (by omega)]; omega
  have e2 : ((k : Int) + 1) % 65536 = (r : Int) := by omega
  clear hr
  go_enter Try.func27, Try.ntmps27
  go_wp2
  go_ret
  exact Ret.mk ⟨rfl, rfl⟩
theorem vavail_ok {rb n : Nat} (hn : n ≤ 256) (c1 : w.cell? ⟨rb, 1, none⟩ = some (.int .i64 n)) : Calls Try.prog 26 #[.pointer (some ⟨rb, 0, none⟩)] w (Ret fun r w' => r = .int .i64 (16 * n : Nat) ∧ w = w') := by
  have hz : (n : Int) ≤ 256 := by omega
  rw [show ((16 * n : Nat) : Int) = 16 * (n : Int) by omega]
  go_enter Try.func26, Try.ntmps26
  go_wp2
  go_ret
  exact Ret.mk ⟨rfl, rfl⟩
theorem vback_ok {rb n : Nat} (hn : n ≤ 256) (c1 : w.cell? ⟨rb, 1, none⟩ = some (.int .i64 n)) : Calls Try.prog 29 #[.pointer (some ⟨rb, 0, none⟩)] w (Ret fun r w' => r = .int .i64 (18 * n + 4 : Nat) ∧ w = w') := by
  have hz : (n : Int) ≤ 256 := by omega
  rw [show ((18 * n + 4 : Nat) : Int) = 18 * (n : Int) + 4 by omega]
  go_enter Try.func29, Try.ntmps29
  go_wp2
  go_ret
  exact Ret.mk ⟨rfl, rfl⟩
theorem RdB.mid {b o n c : Nat} {m : List UInt8} (h : RdB (.slice (some ⟨b, o, none⟩) n c) m w) {base z : Nat} (hz : base + z ≤ m.length) {c2 : Nat} (h2 : z ≤ c2 ∧ c2 ≤ 9223372036854775807) : RdB (.slice (some ⟨b, o + base, none⟩) z c2) ((m.drop base).take z) w := by
  have hl : ((m.drop base).take z).length = z := by rw [List.length_take, List.length_drop]; omega
  by_cases h0 : m.length = 0
  · refine .inr ⟨b, o + base, c2, by rw [hl], by rw [hl]; exact h2.1, h2.2, fun i hi => by rw [hl] at hi; omega⟩
  · obtain ⟨e1, e2, e3, b', o', e4, hx⟩ := h.at (by omega)
    cases e4
    refine .inr ⟨b, o + base, c2, by rw [hl], by rw [hl]; exact h2.1, h2.2, fun i hi => ?_⟩
    rw [hl] at hi
    have := hx (base + i) (by omega)
    rw [← Nat.add_assoc] at this
    rw [this]
    congr 4
    rw [List.getD_eq_getElem?_getD, List.getD_eq_getElem?_getD, List.getElem?_take, if_pos hi, List.getElem?_drop]
theorem vget_ok {rb mb o N c base z a k : Nat} {m : List UInt8} (hk : sizeOk k) (hat : a + k ≤ z) (hz : base + z ≤ m.length) (hzb : z ≤ 1000000) (c0 : w.cell? ⟨rb, 0, none⟩ = some (.slice (some ⟨mb, o + base, none⟩) z z)) (h : RdB (.slice (some ⟨mb, o, none⟩) N c) m w) :
    Calls Try.prog 28 #[.pointer (some ⟨rb, 0, none⟩), .int .i64 a, .int .i64 k] w (Ret fun r w' => r = .int .u64 (lget m (base + a) k : Nat) ∧ w = w') := by
  have h1 := le_in (at_ := a) hk (by rw [List.length_take, List.length_drop]; omega) (h.mid hz (c2 := z) ⟨Nat.le_refl _, by omega⟩)
  have e : leN ((((m.drop base).take z).drop a).take k) = lget m (base + a) k := by
    unfold lget; rw [List.drop_take, List.take_take, List.drop_drop, Nat.min_eq_left (by omega)]
  rw [e] at h1
  clear e h hz
  generalize lget m (base + a) k = v at *
  go_enter Try.func28, Try.ntmps28
  go_wp2_with (first | (go_at_call 40; (with_reducible refine h1.mono ?_); rintro e w2 ⟨rfl, rfl⟩))
  go_ret
  exact Ret.mk ⟨rfl, rfl⟩
set_option maxRecDepth 100000 in
theorem vset_ok {rb mb o N c base z a k v : Nat} {m : List UInt8} (hk : sizeOk k) (hv : v < 256 ^ k) (hat : a + k ≤ z) (hz : base + z ≤ m.length) (hzb : z ≤ 1000000) (h : SatL w (SlB 5 (.slice (some ⟨mb, o, none⟩) N c) m :: L))
    (g : Gives L (fun w' => w'.cell? ⟨rb, 0, none⟩ = some (.slice (some ⟨mb, o + base, none⟩) z z))) :
    Calls Try.prog 25 #[.pointer (some ⟨rb, 0, none⟩), .int .i64 a, .int .i64 k, .int .u64 v] w (Ret fun r w' => SatL w' (SlB 5 (.slice (some ⟨mb, o, none⟩) N c) (lset m (base + a) k v) :: L)) := by
  have hk8 : k ≤ 8 := by rcases hk with rfl | rfl | rfl | rfl <;> omega
  have h1 : SatL (w.alloc (.cells #[.int .u64 v] 73)) (cl w.heap.size 73 #[.int .u64 v] :: SlB 5 (.slice (some ⟨mb, o, none⟩) N c) m :: L) := h.alloc _
  have hp := putle_ok (v := .slice none 0 0) (bs := []) (us := [v]) (k := k) (vu := .slice (some ⟨w.heap.size, 0, none⟩) 1 1) hk (fun i hi => by (have h0 : i = 0 := by simpa using hi); subst h0; exact hv) (by simp) h1 (fun w' h => .inl ⟨rfl, rfl⟩) (fun w' h => RdU.ofCl h rfl rfl (Nat.le_refl _) (by omega))
  rw [List.nil_append, List.flatMap_singleton] at hp
  obtain ⟨hN, hNc, hNm⟩ := Sl.lenEq h
  rw [bvs_len] at hN
  have hNm2 : N ≤ 9223372036854775807 := by unfold maxLen at hNm; omega
  have hz2 : base + z ≤ N := by omega
  have G := hid g
  have hcopy := hid (fun (w' : World) (v2 : Value) (h : SatL w' (SlB 5 v2 (lowb k v) :: cl w.heap.size 73 #[.int .u64 v] :: SlB 5 (.slice (some ⟨mb, o, none⟩) N c) m :: L)) => (⟨h.pull 2, SrcOk.ofSl (P := Try.prog) Try.underlying24 h⟩ : SatL w' (SlB 5 (.slice (some ⟨mb, o, none⟩) N c) m :: SlB 5 v2 (lowb k v) :: cl w.heap.size 73 #[.int .u64 v] :: L) ∧ SrcOk Try.prog 24 1 w' v2 (bvs (lowb k v)).length (bvs (lowb k v))))
  have hz3 : a ≤ z := by omega
  have hz4 : (a : Int) ≤ z := by omega
  have hlb : (bvs (lowb k v)).length = k := by rw [bvs_len, lowb_len]
  have him : base + a + k ≤ N := by omega
  have hmd : k ≤ z - a := by omega
  have hk1 : 1 ≤ k := by rcases hk with rfl | rfl | rfl | rfl <;> omega
  have hza : ¬ z = a := by omega
  have hsub : ((z : Int) - (a : Int)).toNat = z - a := by omega
  clear g h h1 hv hat hz hN hNm
  go_enter Try.func25, Try.ntmps25
  go_wp2_with (first
    | (go_at_call 39; (with_reducible refine hp.mono ?_); rintro e w2 ⟨vv, rfl, v2, rfl, h2⟩; obtain ⟨h3, h4⟩ := hcopy.out _ _ h2; have c0 := G.out _ h2.tail.tail.tail; obtain ⟨va, vc, rfl, v3, v4⟩ := Sl.valn h2 hlb; rw [hlb] at h4)
    | (refine wpList_copy_at rfl (.tmp 22) (.tmp 23) rfl elem_byte rfl h3 (Nat.add_assoc o base a) rfl h4 (bvs_one _) him hmd ?_; intro w3 h5; rw [bvs_lset] at h5))
  go_end0
  exact Ret.mk (SatL.tail (SatL.tail (h5.bring [1, 2, 0])))
end
end Go.Proofs.Ytnniipeoahpkcaa
