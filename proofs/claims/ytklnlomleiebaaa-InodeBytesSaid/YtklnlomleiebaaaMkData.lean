/- What stands in the base of a new volume. Plain mathematics. -/
import Derived.Test.YtklnlomleiebaaaViewB
import Derived.Test.YtklnlomleiebaaaMade
namespace Go.Proofs.Ytklnlomleiebaaa
set_option linter.unusedVariables false
set_option linter.unusedSimpArgs false

theorem foldl_skip (l : List (Int × List UInt8)) (k : Nat) : ∀ r, (∀ p ∈ l, p.1.toNat ≠ k) → (l.foldl setRow r)[k]? = r[k]? := by
  induction l with
  | nil => intro r _; rfl
  | cons p l ih =>
    intro r h
    rw [List.foldl_cons, ih _ (fun q hq => h q (List.mem_cons_of_mem _ hq)), setRow, List.getElem?_set, if_neg (h p List.mem_cons_self)]
theorem foldl_last (a c : List (Int × List UInt8)) (p : Int × List UInt8) (r : List (Option (List UInt8))) (hp : p.1.toNat < r.length) (hc : ∀ q ∈ c, q.1.toNat ≠ p.1.toNat) : ((a ++ p :: c).foldl setRow r)[p.1.toNat]? = some (some p.2) := by
  rw [List.foldl_append, List.foldl_cons, foldl_skip c _ _ hc, setRow, List.getElem?_set, if_pos rfl, if_pos (by rw [foldl_len]; exact hp)]
theorem foldl_512 (l : List (Int × List UInt8)) : ∀ r, Rows512 r → (∀ p ∈ l, p.2.length = 512) → Rows512 (l.foldl setRow r) := by
  induction l with
  | nil => intro r h _; exact h
  | cons p l ih =>
    intro r h hl
    rw [List.foldl_cons]
    refine ih _ ?_ (fun q hq => hl q (List.mem_cons_of_mem _ hq))
    intro k d hk
    rw [setRow, List.getElem?_set] at hk
    split at hk
    · split at hk
      · cases hk; exact hl p List.mem_cons_self
      · cases hk
    · exact h k d hk
theorem rows_none (n : Nat) : Rows512 (List.replicate n none) := by
  intro k d hk
  rw [List.getElem?_replicate] at hk
  split at hk <;> cases hk
theorem bmList_512 {b dt n : Nat} : ∀ p ∈ bmList b dt n, p.2.length = 512 := by
  intro p h
  unfold bmList at h
  obtain ⟨q, hq, hp⟩ := List.mem_flatMap.1 h
  split at hp
  · rw [List.mem_singleton] at hp; rw [hp]; dsimp only; rw [bitsN_len]
  · cases hp
theorem tableB_len (dt s n : Nat) : (tableB dt s n).length = 512 := by
  rw [tableB, List.length_append, List.length_append, List.length_replicate, List.length_replicate, rootB_len]
theorem dirB_len : dirB.length = 512 := by
  rw [dirB, List.length_append, List.length_append, List.length_replicate, entryB_len1, entryB_len2]
theorem mkfsL_512 {b i s n : Nat} : ∀ p ∈ mkfsL b i s n, p.2.length = 512 := by
  intro p hp
  unfold mkfsL at hp
  simp only [List.mem_append, List.mem_cons, List.not_mem_nil, or_false] at hp
  rcases hp with ((h | h) | hp) | h | h
  · rw [h]; exact encB_len _ _
  · rw [h]; dsimp only; rw [bitsN_len]
  · exact bmList_512 p hp
  · rw [h]; exact tableB_len _ _ _
  · rw [h]; exact dirB_len
theorem mkRows_512 {b i s n : Nat} : Rows512 (mkRows b i s n) := foldl_512 _ _ (rows_none b) mkfsL_512
theorem mkRows_len {b i s n : Nat} : (mkRows b i s n).length = b := rowsOf_len _ _
theorem mkRows_0 {b i s n : Nat} (hg : planGood b i) (he : planErr b i = 0) : (mkRows b i s n)[0]? = some (some (encB b i)) := by
  obtain ⟨_, _, hd8, ht0, ht1⟩ := plan_nat hg he
  have hdt : tableN b ≤ dataN b i := by unfold dataN; omega
  have hb : ∀ p ∈ bmList b (dataN b i) (tableN b - 69), p.1.toNat ≠ 0 := fun p hp => by have := bmList_in hp; omega
  have e : mkfsL b i s n = [] ++ ((0 : Int), encB b i) :: ((68, bitsN 512 (imP i)) :: (bmList b (dataN b i) (tableN b - 69) ++ [((tableN b : Int), tableB (dataN b i) s n), ((dataN b i : Int), dirB)])) := by
    unfold mkfsL
    generalize encB b i = E
    generalize bmList b (dataN b i) (tableN b - 69) = M
    generalize bitsN 512 (imP i) = I
    simp
  unfold mkRows rowsOf
  rw [e]
  refine foldl_last [] _ ((0 : Int), encB b i) _ (by rw [List.length_replicate]; show 0 < b; omega) ?_
  generalize bitsN 512 (imP i) = I
  generalize encB b i = E
  generalize tableB (dataN b i) s n = TB
  generalize dirB = DB
  intro q hq
  show q.1.toNat ≠ 0
  rcases List.mem_cons.1 hq with h | hq
  · rw [h]; show (68 : Int).toNat ≠ 0; decide
  · rcases List.mem_append.1 hq with hq | hq
    · exact hb q hq
    · rcases List.mem_cons.1 hq with h | hq
      · rw [h]; show ((tableN b : Nat) : Int).toNat ≠ 0; omega
      · rcases List.mem_cons.1 hq with h | hq
        · rw [h]; show ((dataN b i : Nat) : Int).toNat ≠ 0; omega
        · cases hq

/-- the bitmap of the blocks, as it stands in a new volume -/
theorem bmList_at {b dt : Nat} (n k : Nat) : ∀ (r : List (Option (List UInt8))), 69 + k < r.length → ((bmList b dt n).foldl setRow r)[69 + k]? = if k < n ∧ anyN 4096 (bmP b dt k) = true then some (some (bitsN 512 (bmP b dt k))) else r[69 + k]? := by
  induction n with
  | zero => intro r hr; simp [bmList]
  | succ n ih =>
    intro r hr
    rw [bmList_succ, List.foldl_append]
    by_cases hk : k = n
    · subst hk
      have h0 : ((bmList b dt k).foldl setRow r)[69 + k]? = r[69 + k]? := foldl_skip _ _ _ (fun p hp => by have := bmList_in hp; omega)
      cases ha : anyN 4096 (bmP b dt k) with
      | true =>
        rw [if_pos rfl, if_pos ⟨by omega, rfl⟩, List.foldl_cons, List.foldl_nil, setRow]
        show (_ : List _)[69 + k]? = _
        generalize bitsN 512 (bmP b dt k) = B
        rw [List.getElem?_set, show ((69 + k : Nat) : Int).toNat = 69 + k by omega, if_pos rfl, if_pos (by rw [foldl_len]; exact hr)]
      | false =>
        rw [if_neg (by simp), if_neg (by simp), List.foldl_nil, h0]
    · have hs : ∀ R : List (Option (List UInt8)), ((if anyN 4096 (bmP b dt n) = true then [(((69 + n : Nat) : Int), bitsN 512 (bmP b dt n))] else []).foldl setRow R)[69 + k]? = R[69 + k]? := by
        intro R
        apply foldl_skip
        intro p hp
        split at hp
        · rw [List.mem_singleton] at hp; rw [hp]; show ((69 + n : Nat) : Int).toNat ≠ 69 + k; omega
        · cases hp
      rw [hs, ih r hr]
      have : (k < n + 1) ↔ (k < n) := by omega
      simp only [this]
theorem zero_bits : zero512 = bitsN 512 (fun _ => false) := (bitsN_zero (n := 512)).symm
theorem anyN_no {n : Nat} {P : Nat → Bool} (h : anyN n P = false) : ∀ j, j < n → P j = false := by
  intro j hj
  unfold anyN at h
  rw [List.any_eq_false] at h
  simpa using h j (List.mem_range.2 hj)
def usedP (b dt : Nat) : Nat → Bool := fun j => decide (j ≤ dt) || decide (b ≤ j)
theorem viewAt_bm {b i s n : Nat} (hg : planGood b i) (he : planErr b i = 0) (k : Nat) (hk : k < tableN b - 69) : viewAt (mkRows b i s n) (fun _ => none) (69 + k) = bitsN 512 (fun j => usedP b (dataN b i) (k * 4096 + j)) := by
  obtain ⟨_, _, hd8, ht0, ht1⟩ := plan_nat hg he
  have hdt : tableN b ≤ dataN b i := by unfold dataN; omega
  have h69 : 69 + k < b := by omega
  have hrow : (mkRows b i s n)[69 + k]? = if anyN 4096 (bmP b (dataN b i) k) = true then some (some (bitsN 512 (bmP b (dataN b i) k))) else some none := by
    unfold mkRows rowsOf mkfsL
    rw [List.foldl_append, foldl_skip _ _ _ (by
      intro p hp
      rcases List.mem_cons.1 hp with h | hp
      · rw [h]; show ((tableN b : Nat) : Int).toNat ≠ _; omega
      · rcases List.mem_cons.1 hp with h | hp
        · rw [h]; show ((dataN b i : Nat) : Int).toNat ≠ _; omega
        · cases hp), List.foldl_append, bmList_at _ _ _ (by rw [foldl_len, List.length_replicate]; omega), foldl_skip _ _ _ (by
      intro p hp
      rcases List.mem_cons.1 hp with h | hp
      · rw [h]; show (0 : Int).toNat ≠ _; omega
      · rcases List.mem_cons.1 hp with h | hp
        · rw [h]; show (68 : Int).toNat ≠ _; omega
        · cases hp), List.getElem?_replicate, if_pos h69]
    simp [hk]
  have e : bitsN 512 (bmP b (dataN b i) k) = bitsN 512 (fun j => usedP b (dataN b i) (k * 4096 + j)) := rfl
  unfold viewAt
  show ((_ : Option _).getD none).getD zero512 = _
  rw [hrow]
  cases ha : anyN 4096 (bmP b (dataN b i) k) with
  | true =>
    have z : ∀ x B : List UInt8, ((if true = true then some (some B) else some none).getD none).getD x = B := fun _ _ => rfl
    rw [z]
    exact e
  | false =>
    have z : ∀ x : List UInt8, ((if false = true then some (some (bitsN 512 (bmP b (dataN b i) k))) else some none).getD none).getD x = x := fun _ => rfl
    rw [z, ← e, zero_bits]
    apply bitsN_congr
    intro j hj
    exact (anyN_no ha j (by omega)).symm
end Go.Proofs.Ytklnlomleiebaaa
