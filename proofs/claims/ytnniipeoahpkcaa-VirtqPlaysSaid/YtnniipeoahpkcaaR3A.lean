/- The document's queue: Size, fits, le, set. No condition beside the sizes that each names. -/
import Derived.Test.YtnniipeoahpkcaaVqA
namespace Go.Proofs.Ytnniipeoahpkcaa
set_option linter.unusedVariables false
set_option linter.unusedSimpArgs false
open Go.RowKit
theorem lset_step {m : List UInt8} {a j v : Nat} (h : a + j < m.length) : (bvs (lset m a j v)).set (a + j) (.int .u8 ((byteOf (v / 256 ^ j)).toNat : Nat)) = bvs (lset m a (j + 1) v) := by
  have e1 : (m.take a ++ lowb j v).length = a + j := by rw [List.length_append, List.length_take, lowb_len]; omega
  have e2 : m.drop (a + j) = m[a + j] :: m.drop (a + (j + 1)) := by rw [List.drop_eq_getElem_cons h]; rfl
  unfold lset bvs
  rw [e2, lowb_snoc, List.map_append, List.set_append_right _ _ (by rw [List.length_map, e1]; exact Nat.le_refl _), List.length_map, e1, Nat.sub_self]
  simp [bv]
instance {N : Nat} {base n : Int} : Decidable (atFits N base n) := by unfold atFits; infer_instance
section
variable {w : World} {L : List HP} {mb o N c : Nat}
theorem refsize_ok (n : Int) (w : World) : Calls Try.prog 17 #[.int .i64 n] w (Ret fun r w' => r = .int .i64 (qsize n : Nat) ∧ w = w') := by
  go_enter Try.func17, Try.ntmps17
  go_wp2
  go_loop [3] (fun kv => ∃ p : Nat, (p = 1 ∨ p = 2 ∨ p = 4 ∨ p = 8 ∨ p = 16 ∨ p = 32 ∨ p = 64 ∨ p = 128 ∨ p = 256 ∨ p = 512) ∧ kv = .int .i64 p ∧ (∀ q : Nat, pow2 q = true → n = q → p ≤ q)) (fun kv => 512 - (intOf kv).toNat)
  case atStart => exact ⟨1, .inl rfl, rfl, fun q h _ => (pow2_le h).1⟩
  case round =>
    obtain ⟨p, hp, rfl, hq⟩ := hrel
    have hpb : 1 ≤ p ∧ p ≤ 512 := by omega
    by_cases h1 : p ≤ 256
    · have h1z : (p : Int) ≤ 256 := by omega
      have hpp : pow2 p = true := by rcases hp with rfl | rfl | rfl | rfl | rfl | rfl | rfl | rfl | rfl | rfl <;> first | rfl | omega
      by_cases h2 : (p : Int) = n
      · have e : ((qsize n : Nat) : Int) = 8 + 26 * n := by
          subst h2
          unfold qsize; rw [if_pos ⟨by omega, hpp⟩]; simp
        subst h2
        have He := hid e
        clear hp hq hpp e
        go_wp2
        go_ret
        exact Ret.mk ⟨by rw [He.out]; rfl, rfl⟩
      · have hn2 : ∀ q : Nat, pow2 q = true → n = q → 2 * p ≤ q := by
          intro q h3 h4
          have h5 := hq q h3 h4
          unfold pow2 at h3; simp at h3
          omega
        have Hp := hid hp
        have Hn := hid hn2
        clear hp hq hn2 hpp
        go_wp2
        go_round
        case rel => exact ⟨2 * p, by have := Hp.out; omega, by go_num, Hn.out⟩
        case measure => simp [intOf]; omega
    · have h1z : ¬ (p : Int) ≤ 256 := by omega
      have e : qsize n = 0 := by
        unfold qsize; rw [if_neg]
        rintro ⟨h3, h4⟩
        have h5 := hq _ h4 (by omega)
        have := pow2_le h4
        omega
      have He := hid e
      clear hp hq e
      go_wp2
      go_ret
      exact Ret.mk ⟨by rw [He.out]; rfl, rfl⟩
theorem fits_ok {a : Option Addr} {base n : Int} (hr : -9223372036854775808 ≤ base ∧ base ≤ 9223372036854775807) (hN : N ≤ 1000000) (w : World) :
    Calls Try.prog 41 #[.slice a N c, .int .i64 base, .int .i64 n] w (Ret fun r w' => r = .bool (decide (atFits N base n)) ∧ w = w') := by
  have hs := hid (refsize_ok n)
  have hz2 : qsize n ≤ 6664 := by unfold qsize; split; rename_i h; have := pow2_le h.2; omega; omega
  obtain ⟨f, hf⟩ : ∃ f, f = decide (atFits N base n) := ⟨_, rfl⟩
  rw [← hf]
  replace hf : f = true ↔ (qsize n ≠ 0 ∧ 0 ≤ base ∧ base ≤ (N : Int) - qsize n) := by rw [hf, decide_eq_true_iff]; rfl
  have hff : ∀ g : Bool, ¬ g = true → g = false := by intro g hg; cases g; rfl; exact absurd rfl hg
  generalize qsize n = z at *
  by_cases h1 : z = 0
  · obtain rfl : f = false := hff _ (by rw [hf]; omega)
    subst h1
    clear hf hz2 hff
    go_enter Try.func41, Try.ntmps41
    go_wp2_with (first | (go_at_call 17; (with_reducible refine (hs.out _).mono ?_); rintro e w2 ⟨v, rfl, rfl, rfl⟩))
    go_ret
    exact Ret.mk ⟨rfl, rfl⟩
  · have h1z : (0 : Int) < z := by omega
    by_cases h2 : base < 0
    · obtain rfl : f = false := hff _ (by rw [hf]; omega)
      have h2' : ¬ 0 ≤ base := by omega
      clear hf hff
      go_enter Try.func41, Try.ntmps41
      go_wp2_with (first | (go_at_call 17; (with_reducible refine (hs.out _).mono ?_); rintro e w2 ⟨v, rfl, rfl, rfl⟩))
      go_ret
      exact Ret.mk ⟨rfl, rfl⟩
    · have h2' : 0 ≤ base := by omega
      by_cases h3 : (N : Int) < base
      · obtain rfl : f = false := hff _ (by rw [hf]; omega)
        have h3' : ¬ base ≤ (N : Int) := by omega
        clear hf hff
        go_enter Try.func41, Try.ntmps41
        go_wp2_with (first | (go_at_call 17; (with_reducible refine (hs.out _).mono ?_); rintro e w2 ⟨v, rfl, rfl, rfl⟩))
        go_ret
        exact Ret.mk ⟨rfl, rfl⟩
      · have h3' : base ≤ (N : Int) := by omega
        obtain ⟨bn, rfl⟩ := Int.eq_ofNat_of_zero_le h2'
        by_cases h4 : (z : Int) ≤ (N : Int) - bn
        · obtain rfl : f = true := hf.2 ⟨h1, by omega, by omega⟩
          clear hf hff
          go_enter Try.func41, Try.ntmps41
          go_wp2_with (first | (go_at_call 17; (with_reducible refine (hs.out _).mono ?_); rintro e w2 ⟨v, rfl, rfl, rfl⟩))
          go_ret
          exact Ret.mk ⟨by simp [h4], rfl⟩
        · obtain rfl : f = false := hff _ (by rw [hf]; omega)
          clear hf hff
          go_enter Try.func41, Try.ntmps41
          go_wp2_with (first | (go_at_call 17; (with_reducible refine (hs.out _).mono ?_); rintro e w2 ⟨v, rfl, rfl, rfl⟩))
          go_ret
          exact Ret.mk ⟨by simp; omega, rfl⟩
theorem reflem_ok {v : Value} {a k : Nat} {m : List UInt8} (hk : sizeOk k) (hk4 : k ≤ 4) (hat : a + k ≤ m.length) (h : RdB v m w) :
    Calls Try.prog 43 #[v, .int .i64 a, .int .i64 k] w (Ret fun r w' => r = .int .i64 (lget m a k : Nat) ∧ w = w') := by
  have h1 := refle_in hk hat h
  have hb : lget m a k < 4294967296 := by
    have h2 := lget_lt m a k
    have h3 : 256 ^ k ≤ 256 ^ 4 := Nat.pow_le_pow_right (by omega) hk4
    have : (256 : Nat) ^ 4 = 4294967296 := by decide
    omega
  have e : leN ((m.drop a).take k) = lget m a k := rfl
  rw [e] at h1
  generalize lget m a k = x at *
  clear e hat h
  go_enter Try.func43, Try.ntmps43
  go_wp2_with (first | (go_at_call 44; (with_reducible refine h1.mono ?_); rintro e w2 ⟨rfl, rfl⟩))
  go_ret
  exact Ret.mk ⟨rfl, rfl⟩
theorem refset_ok {a k v : Nat} {m : List UInt8} (hk : k ≤ 8) (hv : v < 9223372036854775808) (hat : a + k ≤ m.length) (hm : m.length ≤ 1000000) (h : SatL w (SlB 5 (.slice (some ⟨mb, o, none⟩) N c) m :: L)) :
    Calls Try.prog 42 #[.slice (some ⟨mb, o, none⟩) N c, .int .i64 a, .int .i64 k, .int .i64 v] w (Ret fun r w' => SatL w' (SlB 5 (.slice (some ⟨mb, o, none⟩) N c) (lset m a k v) :: L)) := by
  have hN : N = m.length := by have := (Sl.lenEq h).1; rw [bvs_len] at this; omega
  have hat2 : a + k ≤ N := by omega
  have hNb : N ≤ 1000000 := by omega
  have Hml := hid (fun j (hj : j ≤ k) => (lset_len (v := v) (by omega) : (lset m a j v).length = m.length))
  have Hst := hid (fun j (hj : j < k) => lset_step (m := m) (a := a) (v := v) (j := j) (by omega))
  have HN := hid hN
  clear hN hat hm
  go_enter Try.func42, Try.ntmps42
  go_wp2
  go_loopw [8] (fun i wr => ∃ j : Nat, j ≤ k ∧ i = .int .i64 j ∧ SatL wr (SlB 5 (.slice (some ⟨mb, o, none⟩) N c) (lset m a j v) :: L)) (fun i _ => k - (intOf i).toNat)
  case atStart => exact ⟨0, by omega, rfl, by unfold lset; simpa [lowb] using h⟩
  case round =>
    clear h
    obtain ⟨j, hj, rfl, hs⟩ := hrel
    by_cases hlt : j < k
    · have hlz : (j : Int) < k := by omega
      have hin : a + j < (bvs (lset m a j v)).length := by rw [bvs_len, Hml.out j hj, ← HN.out]; omega
      have Hset := hid (fun x => Sl.set hs (i := a + j) hin x)
      have fr := Sl.free hs (o + (a + j))
      obtain ⟨u, cu⟩ : ∃ u, wr.cell? ⟨mb, o + (a + j), none⟩ = some u := ⟨_, Sl.cell hs (List.getElem?_eq_getElem hin)⟩
      have e1 := shr_at v j (by omega)
      have i1 : (a : Int) + j < N := by omega
      have i2 : a + j < N := by omega
      have hvz : (v : Int) < 9223372036854775808 := by omega
      clear hs hin
      go_wp2
      go_roundw
      case rel =>
        refine ⟨j + 1, by omega, by go_num, ?_⟩
        have := Hset.out (.int .u8 ((byteOf (v / 256 ^ j)).toNat : Nat))
        rw [Hst.out j hlt] at this
        rw [← low_byte] at this
        exact this
      case measure => simp [intOf]; omega
    · obtain rfl : j = k := by omega
      go_wp2
      go_end0
      exact Ret.mk hs
end
end Go.Proofs.Ytnniipeoahpkcaa
