/- Flying: the heads of the chains that are under way, rising. No condition beside that they are descriptors' numbers. -/
import Derived.Test.YtnniipeoahpkcaaSortedKeysI
import Derived.Test.YtnniipeoahpkcaaVqE
namespace Go.Proofs.Ytnniipeoahpkcaa
set_option linter.unusedVariables false
set_option linter.unusedSimpArgs false
open Go.RowKit
def Dr.flyN (d : Dr) : List Nat := (List.range d.r.n).filter fun i => (d.ch (i : Int)).isSome
def Dr.fly (d : Dr) : List Int := d.flyN.map fun i : Nat => (i : Int)
theorem mem_rfm {α : Type} {rs : List (Rf α)} {k : Int} : k ∈ mkeys (rfm rs) ↔ (ofget rs k).isSome = true := by
  unfold ofget
  rw [Option.isSome_map, List.find?_isSome]
  unfold mkeys rfm
  rw [List.map_map, List.mem_map]
  constructor
  · rintro ⟨r, hr, rfl⟩; exact ⟨r, hr, by simp⟩
  · rintro ⟨r, hr, h⟩; exact ⟨r, hr, by simpa using h⟩
theorem fly_sorted (d : Dr) : d.fly.Pairwise (· < ·) := by
  unfold Dr.fly Dr.flyN
  rw [List.pairwise_map]
  have : (List.range d.r.n).Pairwise (· < ·) := List.pairwise_lt_range
  exact (this.filter _).imp (fun h => by omega)
theorem keys_fly {d : Dr} (hk : ∀ k c, d.ch k = some c → 0 ≤ k ∧ k < d.r.n) {rs : List (Rf (List Nat))} (h : d.ch = ofget rs) (hn : (mkeys (rfm rs)).Nodup) : ups (mkeys (rfm rs)) = d.fly := by
  have hnd : d.fly.Nodup := (fly_sorted d).imp (fun h e => by omega)
  have hp : (mkeys (rfm rs)).Perm d.fly := by
    refine (List.perm_ext_iff_of_nodup hn hnd).2 fun k => ?_
    rw [mem_rfm, ← h]
    unfold Dr.fly Dr.flyN
    rw [List.mem_map]
    constructor
    · intro hs
      obtain ⟨c, hc⟩ := Option.isSome_iff_exists.1 hs
      have := hk k c hc
      obtain ⟨i, rfl⟩ := Int.eq_ofNat_of_zero_le this.1
      exact ⟨i, List.mem_filter.2 ⟨List.mem_range.2 (by omega), hs⟩, rfl⟩
    · rintro ⟨i, hi, rfl⟩
      exact (List.mem_filter.1 hi).2
  exact List.Perm.eq_of_pairwise (le := (· ≤ ·)) (fun x y _ _ h1 h2 => by omega) (ups_sorted _) ((fly_sorted d).imp (fun h => by omega)) ((ups_perm _).trans hp)
section
variable {w : World} {L : List HP} {db mb o : Nat} {d : Dr}
set_option maxRecDepth 100000 in
theorem flying_ok (hk : ∀ k c, d.ch k = some c → 0 ≤ k ∧ k < d.r.n) (hn : d.r.n ≤ 1000) (h : SatL w (DrvR db mb o d :: L)) :
    Calls Try.prog 22 #[.pointer (some ⟨db, 0, none⟩)] w (Ret fun v w' => SatL w' (Sl 3 v (d.fly.map (Value.int .i64)) :: DrvR db mb o d :: L)) := by
  obtain ⟨bv, mp, h1⟩ := sat_DrvR.1 h
  clear h
  have c5 := (drv_cells h1).2.2.2.2.2
  obtain ⟨rs, hrs, h2⟩ := sat_MapF.1 (h1.pull 2 : SatL w (MapF _ _ _ :: _))
  have hnd := MapI.nodup h2
  have hups := keys_fly hk hrs hnd
  have hrange : ∀ k ∈ mkeys (rfm rs), 0 ≤ k ∧ k < d.r.n := fun k hm => by
    have := mem_rfm.1 hm
    rw [← hrs] at this
    obtain ⟨c, hc⟩ := Option.isSome_iff_exists.1 this
    exact hk k c hc
  have hwf : ∀ k ∈ mkeys (rfm rs), (Lit.int .i64 k).wf = true := fun k hm => by
    have := hrange k hm
    have e1 : IntKind.i64.min = -9223372036854775808 := rfl
    have e2 : IntKind.i64.max = 9223372036854775807 := rfl
    simp [Lit.wf, e1, e2]; omega
  have hlen : (rfm rs).length ≤ 1000000 := by
    have e1 : (rfm rs).length = (ups (mkeys (rfm rs))).length := by rw [(ups_perm _).length_eq]; simp [mkeys]
    rw [e1, hups]
    unfold Dr.fly Dr.flyN
    rw [List.length_map]
    exact Nat.le_trans (List.length_filter_le _ _) (by rw [List.length_range]; omega)
  have k1 := keysFn_ok (b := mp) h2
  have k2 := hid (fun (w' : World) (kb : Nat) (L' : List HP) (h : SatL w' (cl kb 67 #[.map (some mp)] :: MapI mp (rfm rs) :: L')) => sortedFn_ok h hwf hlen)
  rw [hups] at k2
  have hback := hid (fun (w' : World) (v : Value) (kb : Nat) (h : SatL w' (Sl 3 v (d.fly.map (Value.int .i64)) :: cl kb 67 #[.map (some mp)] :: MapI mp (rfm rs) :: big (fun r : Rf (List Nat) => NatsL r.v r.xs) rs :: cl db 69 (ringV mb o d.r ++ [bv, .map (some mp)]).toArray :: Sl 4 bv (d.busy.map Value.bool) :: L)) => (by
    have h3 := SatL.tail (h.bring [1, 2, 3, 0, 4, 5])
    have h4 : SatL w' (MapF NatsL mp d.ch :: Sl 3 v (d.fly.map (Value.int .i64)) :: cl db 69 (ringV mb o d.r ++ [bv, .map (some mp)]).toArray :: Sl 4 bv (d.busy.map Value.bool) :: L) := sat_MapF.2 ⟨rs, hrs, h3⟩
    have h5 : SatL w' (DrvR db mb o d :: Sl 3 v (d.fly.map (Value.int .i64)) :: L) := sat_DrvR.2 ⟨bv, mp, h4.bring [2, 3, 0, 1]⟩
    exact h5.swap : SatL w' (Sl 3 v (d.fly.map (Value.int .i64)) :: DrvR db mb o d :: L)))
  clear hwf hlen hups hrange hnd hrs h1 hk
  go_enter Try.func22, Try.ntmps22
  go_wp2_with (first
    | (go_at_call 38; (with_reducible refine k1.mono ?_); rintro e w2 ⟨v, rfl, rfl, h3⟩; have k3 := k2.out _ _ _ h3)
    | (go_at_call 37; (with_reducible refine k3.mono ?_); rintro e w3 ⟨v, rfl, h4⟩))
  go_ret
  exact Ret.mk (hback.out _ _ _ h4)
end
end Go.Proofs.Ytnniipeoahpkcaa
