/- Puts of a view: what was put, its places rising. -/
import Derived.Test.YtgbaigbplaoeaaaSortedKeys
import Derived.Test.YtgbaigbplaoeaaaViewB
import Derived.Test.YtgbaigbplaoeaaaPuts
namespace Go.Proofs.Ytgbaigbplaoeaaa
set_option linter.unusedVariables false
set_option linter.unusedSimpArgs false
open Go.RowKit

theorem oget_mem {rs : List Rv} {k : Int} : (oget rs k).isSome = true ↔ k ∈ rs.map (·.k) := by
  unfold oget
  rw [Option.isSome_map, List.find?_isSome]
  constructor
  · rintro ⟨r, hr, e⟩; exact List.mem_map.2 ⟨r, hr, by simpa using e⟩
  · intro h
    obtain ⟨r, hr, e⟩ := List.mem_map.1 h
    exact ⟨r, hr, by simpa using e⟩
theorem rvm_keys (rs : List Rv) : mkeys (rvm rs) = rs.map (·.k) := by simp [mkeys, rvm, List.map_map, Function.comp_def]

/-- the places of what was put, rising -/
def PutKeys (puts : Puts) (ks : List Int) : Prop := ks.Pairwise (· < ·) ∧ ∀ k, k ∈ ks ↔ (puts k).isSome = true
theorem PutKeys.unique {puts : Puts} {a c : List Int} (ha : PutKeys puts a) (hc : PutKeys puts c) : a = c := by
  have nd : ∀ l : List Int, l.Pairwise (· < ·) → l.Nodup := fun l h => h.imp (fun h => Int.ne_of_lt h)
  have hp : a.Perm c := (List.perm_ext_iff_of_nodup (nd _ ha.1) (nd _ hc.1)).2 fun k => by rw [ha.2, hc.2]
  exact List.Perm.eq_of_pairwise (le := fun x y : Int => x < y) (fun x y _ _ h1 h2 => by omega) ha.1 hc.1 hp
def putList (puts : Puts) (ks : List Int) : List (Int × List UInt8) := ks.map fun k => (k, (puts k).getD [])

section
variable {w : World} {L : List HP} {vb mb i tb dt : Nat} {rows : List (Option (List UInt8))} {puts : Puts}
theorem puts_keys {m : Nat} (h : SatL w (MapO 5 m (fun k => (puts k).map bvs) :: L)) : ∃ (es : IM) (B : HP), SatL w (MapI m es :: B :: L) ∧ (∀ k, k ∈ mkeys es ↔ (puts k).isSome = true) ∧ PutKeys puts (ups (mkeys es)) ∧ (mkeys es).length = es.length ∧ (mkeys es).Nodup ∧
    ∀ (w' : World) (L' : List HP), SatL w' (MapI m es :: B :: L') → SatL w' (MapO 5 m (fun k => (puts k).map bvs) :: L') := by
  obtain ⟨rs, hf, h1⟩ := sat_MapO.1 h
  have hn := MapI.nodup h1
  have hm : ∀ k, k ∈ mkeys (rvm rs) ↔ (puts k).isSome = true := by
    intro k
    rw [rvm_keys, ← oget_mem, ← congrFun hf k, Option.isSome_map]
  refine ⟨rvm rs, _, h1, hm, ⟨?_, fun k => by rw [ups_mem, hm]⟩, by simp [mkeys], hn, fun w' L' h' => sat_MapO.2 ⟨rs, hf, h'⟩⟩
  have h2 := ups_sorted (mkeys (rvm rs))
  have h3 : (ups (mkeys (rvm rs))).Nodup := (ups_perm _).nodup_iff.2 hn
  exact (h2.and h3).imp fun h => by have := h.1; have := h.2; omega
theorem keys_few {ks : List Int} {n : Nat} (h : ks.Nodup) (hin : ∀ k ∈ ks, 0 ≤ k ∧ k < n) : ks.length ≤ n := by
  have := List.Nodup.length_le_of_subset h (l₂ := (List.range n).map fun j : Nat => (j : Int)) (fun k hk => List.mem_map.2 ⟨k.toNat, List.mem_range.2 (by have := hin k hk; omega), by have := hin k hk; omega⟩)
  simpa using this

set_option maxRecDepth 100000 in
set_option maxHeartbeats 2000000 in
theorem puts_ok (h : SatL w (ViewR vb mb i tb dt rows puts :: L)) (hin : ∀ k, (puts k).isSome = true → 0 ≤ k ∧ k < rows.length) (hp5 : Puts512 puts) (hn : rows.length ≤ 1000000) :
    Calls Try.prog 32 #[.pointer (some ⟨vb, 0, none⟩)] w (Ret fun lv w' => ∃ ks, PutKeys puts ks ∧ SatL w' (PutsL lv (putList puts ks) :: ViewR vb mb i tb dt rows puts :: L)) := by
  obtain ⟨m, h1⟩ := sat_ViewR.1 h
  obtain ⟨es, Bg, h2, hm, hks, hlen, hnd, hback⟩ := puts_keys (h1.pull 1 : SatL w (MapO _ _ _ :: _))
  have hfew : es.length ≤ 1000000 := by rw [← hlen]; exact Nat.le_trans (keys_few hnd (fun k hk => hin k ((hm k).1 hk))) hn
  have hwf : ∀ k ∈ mkeys es, (Lit.int .i64 k).wf = true := fun k hk => WalkArith.wf_i64 (by have := hin k ((hm k).1 hk); omega)
  have hkf := keysFn_ok (b := m) h2
  have hso := fun (w1 : World) (kb : Nat) (h : SatL w1 (cl kb 89 #[.map (some m)] :: MapI m es :: Bg :: cl vb 95 (viewCells m mb rows.length i tb dt) :: BaseR mb rows (List.replicate rows.length false) :: L)) => sortedFn_ok h hwf hfew
  have hkl : (ups (mkeys es)).length = es.length := by rw [(ups_perm _).length_eq, hlen]
  have c0 : w.cell? ⟨vb, 0, none⟩ = some (.map (some m)) := h1.cell (i := 0) rfl
  have hsome : ∀ k ∈ ups (mkeys es), ∃ d, puts k = some d ∧ d.length = 512 := by
    intro k hk
    have := (hks.2 k).1 hk
    obtain ⟨d, hd⟩ := Option.isSome_iff_exists.1 this
    exact ⟨d, hd, hp5 _ _ hd⟩
  have Hks := hid hks
  generalize hK : ups (mkeys es) = ks at *
  have HK := hid hK
  have Hm := hid hm
  clear hK hks h h1 h2 hlen hnd hwf hm
  have b1 : ∀ q : Nat, q ≤ 1000000 → (q + 1) * 32 ≤ 140737488355328 := fun q hq => by omega
  go_enter Try.func32, Try.ntmps32
  go_wp2_with (first
    | (go_at_call 60; (with_reducible refine hkf.mono ?_); rintro e w1 ⟨v, rfl, rfl, hs1⟩)
    | (go_at_call 59; (with_reducible refine (hso _ _ hs1).mono ?_); rintro e w2 ⟨v2, rfl, hs2⟩; obtain ⟨sa, sc, rfl, q1, q2⟩ := Sl.valn hs2 (m := es.length) (by rw [List.length_map]; exact hkl)))
  have hs3 : SatL w2 (PutsR (.slice none 0 0) [] :: Sl 3 (.slice sa es.length sc) (ks.map (Value.int .i64)) :: MapO 5 m (fun k => (puts k).map bvs) :: cl vb 95 (viewCells m mb rows.length i tb dt) :: BaseR mb rows (List.replicate rows.length false) :: L) := by
    have h4 := hback w2 _ ((hs2.bring [2, 3, 0, 4, 5]))
    have h5 : SatL w2 (Sl 3 (.slice sa es.length sc) (ks.map (Value.int .i64)) :: MapO 5 m (fun k => (puts k).map bvs) :: cl vb 95 (viewCells m mb rows.length i tb dt) :: BaseR mb rows (List.replicate rows.length false) :: L) := SatL.tail (h4.bring [4, 1, 0, 2, 3])
    exact sat_PutsR.2 (SlK_nil ((big_nil (f := fun p : Pt => SlB 5 p.v p.d)).2 h5))
  clear hs1 hs2 hkf hso c0
  have hkl2 : (ks.map (Value.int .i64)).length = es.length := by rw [List.length_map]; exact hkl
  go_loopw [3, 14] (fun ov ii wr => ∃ (q : Nat) (ps : List Pt), q ≤ es.length ∧ ii = .int .i64 q ∧ ps.map (fun p => (p.b, p.d)) = putList puts (ks.take q) ∧ SatL wr (PutsR ov ps :: Sl 3 (.slice sa es.length sc) (ks.map (Value.int .i64)) :: MapO 5 m (fun k => (puts k).map bvs) :: cl vb 95 (viewCells m mb rows.length i tb dt) :: BaseR mb rows (List.replicate rows.length false) :: L)) (fun _ ii _ => es.length - (intOf ii).toNat)
  case atStart => exact ⟨0, [], by omega, rfl, rfl, hs3⟩
  case round =>
    clear hs3
    obtain ⟨q, ps, hq, rfl, hps, hs⟩ := hrel
    by_cases hlt : q < es.length
    · obtain ⟨sb, so, rfl⟩ := Sl.addr (hs.pull 1 : SatL _ (Sl _ _ _ :: _)) (by omega)
      have hkq : ks[q]? = some ks[q] := List.getElem?_eq_getElem (by rw [hkl]; exact hlt)
      obtain ⟨d, hd, hdl⟩ := hsome ks[q] (List.getElem_mem _)
      have ck := Sl.cell (hs.pull 1 : SatL _ (Sl _ _ _ :: _)) (i := q) (x := .int .i64 ks[q]) (by rw [List.getElem?_map, hkq]; rfl)
      have hpl : ps.length = q := by
        have := congrArg List.length hps
        simp only [List.length_map, putList, List.length_take] at this
        omega
      have hsnoc : ks.take (q + 1) = ks.take q ++ [ks[q]] := by rw [List.take_add_one, hkq]; rfl
      have Hps := hid hps
      have Hsn := hid hsnoc
      have Hd := hid hd
      generalize ks[q] = k0 at *
      have hpr := sat_PutsR.1 hs
      rw [hpl] at hpr
      obtain ⟨oa, oc, rfl, q3, q4⟩ := SlK.valn hpr
      obtain ⟨es2, R, M, h2, hr, hbk, _⟩ := mapo_open (hpr.pull 3 : SatL _ (MapO _ _ _ :: _)) k0
      rw [show (puts k0).map bvs = some (bvs d) by rw [hd]; rfl] at hr
      obtain ⟨v, hmg, rfl⟩ := hr
      have hlk := run_lookup_sl key_view (h2.pull 1 : SatL _ (MapI _ _ :: _)) k0
      rw [hmg] at hlk
      have hcl := clone_bytes (xs := d) h2 (by omega)
      have c0 : wr.cell? ⟨vb, 0, none⟩ = some (.map (some m)) := (hs.pull 3 : SatL _ (cl vb 95 (viewCells m mb rows.length i tb dt) :: _)).cell (i := 0) rfl
      obtain ⟨av, cv, rfl, q5, q6⟩ := Sl.valn h2 (m := 512) (by rw [bvs_len, hdl])
      simp only [Option.getD_some] at hlk
      have z0 : (0 : Int) ≤ q := by omega
      have z1 : (q : Int) < es.length := by omega
      have b3 : (q + 1) * 32 ≤ 140737488355328 := b1 q (by omega)
      have b4 : 0 < 32 := by omega
      have Hpl := hid hpl
      have Hkl := hid hkl
      clear hps hsnoc hd hmg hsome hkq hin hp5 b1 hkl2 hkl hpl hback
      go_wp2_with (first
        | (go_at_call 58; (with_reducible refine hcl.mono ?_); rintro e w3 ⟨v3, rfl, hs5⟩; obtain ⟨av3, cv3, rfl, q7, q8⟩ := Sl.valn hs5 (m := 512) (by rw [bvs_len, hdl]))
        | (at_builtin; refine wpList_pushK_sl rfl rfl (.tmp 18) (.tmp 29) rfl elem_put b4 rfl (SatL.pull hs5 4 : SatL w3 (SlK _ _ _ _ _ :: _)) rfl rfl (by simp [Value.oneCell']) b3 ?_; intro v4 w4 hs6))
      go_roundw
      case rel =>
        have h9 := PutsL.snoc (ps := ps) (b := k0) (u := .slice av3 512 cv3) (d := d) (by rw [Hpl.out]; exact hs6.bring [0, 5, 1])
        have h10 := hbk _ _ (SatL.bring h9 [1, 2, 3])
        refine ⟨q + 1, ps ++ [(⟨k0, .slice av3 512 cv3, d⟩ : Pt)], by omega, by go_num, ?_, SatL.bring h10 [1, 2, 0]⟩
        rw [Hsn.out, List.map_append, Hps.out]
        simp [putList, Hd.out]
      case measure => simp [intOf]; omega
    · obtain rfl : q = es.length := by omega
      go_wp2
      go_ret
      have hfull : ks.take es.length = ks := List.take_of_length_le (by omega)
      rw [hfull] at hps
      refine Ret.mk ⟨ks, Hks.out, ?_⟩
      have h4 := sat_ViewR.2 ⟨m, SatL.bring hs [3, 2, 4]⟩
      exact sat_PutsL.2 ⟨ps, hps, SatL.tail (SatL.bring h4 [2, 1, 0])⟩
end
end Go.Proofs.Ytgbaigbplaoeaaa
