/- What one round through a queue comes to, and that a queue's device writes nothing outside of its queue: in plain words. -/
import Derived.Test.YtnniipeoahpkcaaVqF
namespace Go.Proofs.Ytnniipeoahpkcaa
set_option linter.unusedVariables false
set_option linter.unusedSimpArgs false
structure Inv (n i : Nat) (d : Dr) (r : Ring) (m : List UInt8) : Prop where
  dr : d.r = ⟨0, n, i % 65536, i % 65536⟩
  db : d.busy = List.replicate n false
  dc : d.ch = fun _ => none
  rr : r = ⟨0, n, i % 65536, i % 65536⟩
  ml : m.length = qs n
  g1 : lget m (16 * n + 2) 2 = i % 65536
  g2 : lget m (18 * n + 4 + 2) 2 = i % 65536
structure Rnd where
  a : Addd
  t : Took × Ring
  g : Gave
  u : Usd
def rnd (d : Dr) (r : Ring) (m : List UInt8) (i : Nat) : Rnd :=
  let a := d.add m [⟨i, 1, false⟩]
  let t := r.take a.m
  let g := t.2.give a.m t.1.head 1
  ⟨a, t, g, a.d.used g.m⟩
theorem chain_one {n : Nat} (hn : 0 < n) : chainOf (List.replicate n false) 1 = [0] := by
  unfold chainOf freeIdx
  rw [List.length_replicate]
  obtain ⟨k, rfl⟩ : ∃ k, n = k + 1 := ⟨n - 1, by omega⟩
  rw [List.range_succ_eq_map, List.filter_cons]
  simp
theorem rnd_inv {n i : Nat} {d : Dr} {r : Ring} {m : List UInt8} (hn : 1 ≤ n ∧ n ≤ 256) (hi : i < 4611686018427387904) (h : Inv n i d r m) :
    (rnd d r m i).a.e = 0 ∧ (rnd d r m i).a.h = 0 ∧ (rnd d r m i).t.1 = ⟨0, [⟨i, 1, false⟩], 0⟩ ∧ (rnd d r m i).g.e = 0 ∧ (rnd d r m i).u.e = 0 ∧ (rnd d r m i).u.h = 0 ∧ Inv n (i + 1) (rnd d r m i).u.d (rnd d r m i).g.r (rnd d r m i).g.m := by
  obtain ⟨e1, e2, e3, e4, e5, e6, e7⟩ := h
  obtain ⟨dr, db, dc⟩ := d
  simp only at e1 e2 e3
  subst e1 e2 e3 e4
  have hk : i % 65536 < 65536 := Nat.mod_lt _ (by omega)
  have hkk : (i % 65536 + 1) % 65536 = (i + 1) % 65536 := by omega
  have hne : (i % 65536 + 1) % 65536 ≠ i % 65536 := by omega
  have hq : qs n = 8 + 26 * n := rfl
  have hqn : i % 65536 % n < n := Nat.mod_lt _ (by omega)
  have hfree : free (List.replicate n false) = n := by
    unfold free; rw [List.countP_replicate]; rfl
  -- what Add leaves
  have hadd : (⟨⟨0, n, i % 65536, i % 65536⟩, List.replicate n false, fun _ => none⟩ : Dr).add m [⟨i, 1, false⟩] =
      ⟨0, 0, ⟨⟨0, n, (i + 1) % 65536, i % 65536⟩, (List.replicate n false).set 0 true, upo (fun _ => none) (0 : Int) [0]⟩,
        lset (lset (lset (lset (lset (lset m 0 8 i) 8 4 1) 12 2 0) 14 2 0) (16 * n + 4 + 2 * (i % 65536 % n)) 2 0) (16 * n + 2) 2 ((i + 1) % 65536)⟩ := by
    unfold Dr.add
    rw [if_neg (by simp [Bf.bad]), hfree, if_neg (by simp; omega)]
    rw [show [(⟨i, 1, false⟩ : Bf)].length = 1 from rfl, chain_one (by omega)]
    unfold Dr.put Dr.putM Ring.step
    simp only [hkk, List.length_singleton, Nat.zero_add, descs, descM, List.getD_cons_zero, Nat.mul_zero, setbusy, List.foldl_cons, List.foldl_nil]
    simp [flagOf]
  unfold rnd
  simp only [hadd]
  generalize hM : lset (lset (lset (lset (lset (lset m 0 8 i) 8 4 1) 12 2 0) 14 2 0) (16 * n + 4 + 2 * (i % 65536 % n)) 2 0) (16 * n + 2) 2 ((i + 1) % 65536) = M
  have l1 : (lset m 0 8 i).length = m.length := lset_len (by omega)
  have l2 : (lset (lset m 0 8 i) 8 4 1).length = m.length := by rw [lset_len (by omega), l1]
  have l3 : (lset (lset (lset m 0 8 i) 8 4 1) 12 2 0).length = m.length := by rw [lset_len (by omega), l2]
  have l4 : (lset (lset (lset (lset m 0 8 i) 8 4 1) 12 2 0) 14 2 0).length = m.length := by rw [lset_len (by omega), l3]
  have l5 : (lset (lset (lset (lset (lset m 0 8 i) 8 4 1) 12 2 0) 14 2 0) (16 * n + 4 + 2 * (i % 65536 % n)) 2 0).length = m.length := by rw [lset_len (by omega), l4]
  have lM : M.length = m.length := by rw [← hM, lset_len (by omega), l5]
  have hi8 : i < 256 ^ 8 := by omega
  have f0 : lget M 0 8 = i := by
    rw [← hM, lget_off (by omega) (by omega), lget_off (by omega) (by omega), lget_off (by omega) (by omega), lget_off (by omega) (by omega), lget_off (by omega) (by omega), lget_lset (by omega) hi8]
  have f8 : lget M 8 4 = 1 := by
    rw [← hM, lget_off (by omega) (by omega), lget_off (by omega) (by omega), lget_off (by omega) (by omega), lget_off (by omega) (by omega), lget_lset (by omega) (by omega)]
  have f12 : lget M 12 2 = 0 := by
    rw [← hM, lget_off (by omega) (by omega), lget_off (by omega) (by omega), lget_off (by omega) (by omega), lget_lset (by omega) (by omega)]
  have fh : lget M (16 * n + 4 + 2 * (i % 65536 % n)) 2 = 0 := by
    rw [← hM, lget_off (by omega) (by omega), lget_lset (by omega) (by omega)]
  have fa : lget M (16 * n + 2) 2 = (i + 1) % 65536 := by
    rw [← hM, lget_lset (by omega) (by omega)]
  have fb : lget M (18 * n + 4 + 2) 2 = i % 65536 := by
    rw [← hM, lget_off (by omega) (by omega), lget_off (by omega) (by omega), lget_off (by omega) (by omega), lget_off (by omega) (by omega), lget_off (by omega) (by omega), lget_off (by omega) (by omega), e7]
  clear hM l1 l2 l3 l4 l5 hadd
  have htake : (⟨0, n, i % 65536, i % 65536⟩ : Ring).take M = (⟨0, [⟨i, 1, false⟩], 0⟩, ⟨0, n, (i + 1) % 65536, i % 65536⟩) := by
    unfold Ring.take Ring.headAt Ring.step
    simp only [Nat.zero_add]
    rw [fa, if_neg (by omega), fh]
    obtain ⟨k, hk2⟩ : ∃ k, n = k + 1 := ⟨n - 1, by omega⟩
    have : takeL M 0 n n 0 [] = some [⟨i, 1, false⟩] := by
      conv => lhs; arg 4; rw [hk2]
      unfold takeL
      simp only [Nat.zero_add, Nat.mul_zero]
      rw [if_neg (by omega), f0, if_neg (by omega), f12, f8]
      simp
    rw [this]
    simp only [hkk]
  rw [htake]
  simp only
  have hgive : (⟨0, n, (i + 1) % 65536, i % 65536⟩ : Ring).give M ((0 : Nat) : Int) 1 = ⟨0, lset (lset (lset M (18 * n + 4 + 4 + 8 * (i % 65536 % n)) 4 0) (18 * n + 4 + 4 + 8 * (i % 65536 % n) + 4) 4 1) (18 * n + 4 + 2) 2 ((i + 1) % 65536), ⟨0, n, (i + 1) % 65536, (i + 1) % 65536⟩⟩ := by
    unfold Ring.give
    rw [if_neg (by simp; omega)]
    unfold Ring.giveM Ring.usedAt Ring.stepU
    simp only [Nat.zero_add, hkk]
    rfl
  rw [hgive]
  simp only
  generalize hG : lset (lset (lset M (18 * n + 4 + 4 + 8 * (i % 65536 % n)) 4 0) (18 * n + 4 + 4 + 8 * (i % 65536 % n) + 4) 4 1) (18 * n + 4 + 2) 2 ((i + 1) % 65536) = G
  have k1 : (lset M (18 * n + 4 + 4 + 8 * (i % 65536 % n)) 4 0).length = M.length := lset_len (by omega)
  have k2 : (lset (lset M (18 * n + 4 + 4 + 8 * (i % 65536 % n)) 4 0) (18 * n + 4 + 4 + 8 * (i % 65536 % n) + 4) 4 1).length = M.length := by rw [lset_len (by omega), k1]
  have lG : G.length = M.length := by rw [← hG, lset_len (by omega), k2]
  have q0 : lget G (18 * n + 4 + 4 + 8 * (i % 65536 % n)) 4 = 0 := by
    rw [← hG, lget_off (by omega) (by omega), lget_off (by omega) (by omega), lget_lset (by omega) (by omega)]
  have q2 : lget G (18 * n + 4 + 2) 2 = (i + 1) % 65536 := by
    rw [← hG, lget_lset (by omega) (by omega)]
  have q3 : lget G (16 * n + 2) 2 = (i + 1) % 65536 := by
    rw [← hG, lget_off (by omega) (by omega), lget_off (by omega) (by omega), lget_off (by omega) (by omega), fa]
  clear hG k1 k2 hgive htake
  have hused : (⟨⟨0, n, (i + 1) % 65536, i % 65536⟩, (List.replicate n false).set 0 true, upo (fun _ => none) (0 : Int) [0]⟩ : Dr).used G = ⟨0, lget G (18 * n + 4 + 4 + 8 * (i % 65536 % n) + 4) 4, 0, ⟨⟨0, n, (i + 1) % 65536, (i + 1) % 65536⟩, List.replicate n false, fun _ => none⟩⟩ := by
    unfold Dr.used Ring.usedAt Ring.stepU
    simp only [Nat.zero_add]
    rw [q2, if_neg (by omega), q0]
    simp only [upo, Int.natCast_zero, if_true, hkk]
    congr 2
    · simp only [unbusy, List.foldl_cons, List.foldl_nil, List.set_set]
      obtain ⟨k, rfl⟩ : ∃ k, n = k + 1 := ⟨n - 1, by omega⟩
      rfl
    · funext j
      split <;> rfl
  rw [hused]
  have hI : Inv n (i + 1) ⟨⟨0, n, (i + 1) % 65536, (i + 1) % 65536⟩, List.replicate n false, fun _ => none⟩ ⟨0, n, (i + 1) % 65536, (i + 1) % 65536⟩ G := ⟨rfl, rfl, rfl, rfl, by omega, q3, q2⟩
  simp only [true_and]
  exact hI
end Go.Proofs.Ytnniipeoahpkcaa
