/- The chapter's example holds. -/
import Derived.Test.YtlmjjfgnpcghgaaCacheG
namespace Go.Proofs.Ytlmjjfgnpcghgaa
set_option linter.unusedVariables false
set_option linter.unusedSimpArgs false
open Go.RowKit

def zeros : List Value := List.replicate 512 (.int .u8 0)
theorem zeros_one : ∀ y ∈ zeros, y.oneCell' = true := by intro y hy; rw [List.eq_of_mem_replicate hy]; rfl
theorem zeros_len : zeros.length = 512 := by unfold zeros; rw [List.length_replicate]
def zb (k : Int) : Blk := ⟨k, zeros, false, 0⟩
theorem bfill_zeros (most : Int) (bs : List Blk) (k : Int) (hk : 0 ≤ k) (hf : bs.find? (bhas k) = none) : bfill most bs k zeros = if (broom most bs).1 = 0 then (0, (broom most bs).2 ++ [zb k]) else broom most bs := by
  unfold bfill
  rw [if_neg (by omega), if_neg (by simp [zeros_len])]
  simp only [hf, Option.isSome_none, Bool.false_eq_true, if_false, blay]
  rfl

section
variable {w : World} {l : List HP}

theorem blkOk_zb (ks : List Int) (h : ks.length ≤ 100000) : BlkOk (ks.map zb) := by
  refine ⟨by simpa using h, fun x hx => ?_⟩
  obtain ⟨k, _, rfl⟩ := List.mem_map.1 hx
  exact ⟨zeros_one, by simp [zb, zeros_len]⟩

set_option maxHeartbeats 1000000 in
theorem known_ok (h : SatL w l) : Calls Try.prog 7 #[] w (Ret (BoolPost l true)) := by
  have e1 : bfill 2 [] 1 zeros = (0, [zb 1]) := by rw [bfill_zeros 2 [] 1 (by omega) rfl]; rfl
  have e2 : bfill 2 [zb 1] 2 zeros = (0, [zb 1, zb 2]) := by rw [bfill_zeros _ _ _ (by omega) rfl]; rfl
  have e3 : bget [zb 1, zb 2] 1 = (0, [zb 2, zb 1]) := rfl
  have e4 : bfill 2 [zb 2, zb 1] 3 zeros = (0, [zb 1, zb 3]) := by rw [bfill_zeros _ _ _ (by omega) rfl]; rfl
  have e5 : bget [zb 1, zb 3] 2 = (17, [zb 1, zb 3]) := rfl
  have ok : ∀ ks : List Int, ks.length ≤ 100000 → BlkOk (ks.map zb) := blkOk_zb
  have n1 := fun (w : World) (h : SatL w l) => new_A 2 h (by omega)
  have f1 := fun (w : World) (pb : Nat) (v : Value) (h : SatL w (CacheA pb 2 [] :: Sl 5 v zeros :: l)) => fill_A (k := 1) h (ok [] (by simp)) (by omega) zeros_one (by rw [zeros_len]; omega)
  have f2 := fun (w : World) (pb : Nat) (v : Value) (h : SatL w (CacheA pb 2 [zb 1] :: Sl 5 v zeros :: l)) => fill_A (k := 2) h (ok [1] (by simp)) (by omega) zeros_one (by rw [zeros_len]; omega)
  have g1 : ∀ (w : World) (pb : Nat) (v : Value), SatL w (CacheA pb 2 [zb 1, zb 2] :: Sl 5 v zeros :: l) → Calls Try.prog 10 #[.pointer (some ⟨pb, 0, none⟩), .int .i64 1] w (Ret fun u w' => ∃ dv, u = .tuple #[dv, .int .i64 0] ∧ SatL w' (CacheA pb 2 [zb 2, zb 1] :: Sl 5 v zeros :: l)) := fun w pb v h => (get_A (k := 1) h (ok [1, 2] (by simp))).mono fun e w' ⟨u, he, dv, hu, hs⟩ => ⟨u, he, dv, hu, hs.tail⟩
  have f3 := fun (w : World) (pb : Nat) (v : Value) (h : SatL w (CacheA pb 2 [zb 2, zb 1] :: Sl 5 v zeros :: l)) => fill_A (k := 3) h (ok [2, 1] (by simp)) (by omega) zeros_one (by rw [zeros_len]; omega)
  have g2 : ∀ (w : World) (pb : Nat) (v : Value), SatL w (CacheA pb 2 [zb 1, zb 3] :: Sl 5 v zeros :: l) → Calls Try.prog 10 #[.pointer (some ⟨pb, 0, none⟩), .int .i64 2] w (Ret fun u w' => ∃ dv, u = .tuple #[dv, .int .i64 17] ∧ SatL w' (CacheA pb 2 [zb 1, zb 3] :: Sl 5 v zeros :: l)) := fun w pb v h => (get_A (k := 2) h (ok [1, 3] (by simp))).mono fun e w' ⟨u, he, dv, hu, hs⟩ => ⟨u, he, dv, hu, hs.tail⟩
  have h1 := fun (w : World) (pb : Nat) (v : Value) (h : SatL w (CacheA pb 2 [zb 1, zb 3] :: Sl 5 v zeros :: l)) => held_A h (by simp)
  simp only [e1] at f1
  simp only [e2] at f2
  simp only [e4] at f3
  clear e1 e2 e3 e4 e5 ok
  have t0 : True := trivial
  go_enter Try.func7, Try.ntmps7
  go_wp2_with (first
    | (go_at_call 9; (with_reducible refine (n1 _ h).mono ?_); rintro e w1 ⟨v, rfl, pb, rfl, hs1⟩)
    | (have _t := t0; refine wpList_make_sl rfl (.const (.int .i64 512)) (.const (.int .i64 512)) rfl elem_byte 512 rfl rfl hs1 (by omega) (by omega) ?_; intro w2 hs2; clear t0; have t1 : True := trivial; have hs3 := SatL.swap hs2)
    | (have _t := t1; go_at_call 11; refine (f1 _ _ _ hs3).mono ?_; rintro e w3 ⟨v, rfl, rfl, hs4⟩; clear t1; have t2 : True := trivial)
    | (have _t := t2; go_at_call 11; refine (f2 _ _ _ hs4).mono ?_; rintro e w4 ⟨v, rfl, rfl, hs5⟩; clear t2; have t3 : True := trivial)
    | (have _t := t3; go_at_call 10; refine (g1 _ _ _ hs5).mono ?_; rintro e w5 ⟨v, rfl, dv, rfl, hs6⟩; clear t3; have t4 : True := trivial)
    | (have _t := t4; go_at_call 11; refine (f3 _ _ _ hs6).mono ?_; rintro e w6 ⟨v, rfl, rfl, hs7⟩; clear t4; have t5 : True := trivial)
    | (have _t := t5; go_at_call 10; refine (g2 _ _ _ hs7).mono ?_; rintro e w7 ⟨v, rfl, dv2, rfl, hs8⟩; clear t5; have t6 : True := trivial)
    | (have _t := t6; go_at_call 12; refine (h1 _ _ _ hs8).mono ?_; rintro e w8 ⟨v, rfl, hs9⟩; clear t6; obtain ⟨a, n, c, rfl⟩ := Sl.val hs9; obtain ⟨hn, _, _⟩ := Sl.lenEq hs9; have hn2 : n = 2 := hn; subst hn2))
  go_ret
  exact Ret.mk ⟨rfl, SatL.tail (SatL.tail (SatL.tail hs9))⟩
end
end Go.Proofs.Ytlmjjfgnpcghgaa
