/- A group's more: how many blocks there would be. No condition beside the sizes that it names. -/
import Derived.Test.YtjjnadlklfegcaaWalGrp
namespace Go.Proofs.Ytjjnadlklfegcaa
set_option linter.unusedVariables false
set_option linter.unusedSimpArgs false
open Go.RowKit

/-- the blocks that are new -/
theorem more_step {l ls : List PD} {fs : IM} {j : Nat} {q : PD} (hn : (mkeys fs).Nodup) (hq : ls[j]? = some q) (hl : (gputs l (ls.take j)).length = l.length + fs.length) (hm : ∀ k, k ∈ mkeys fs ↔ k ∈ (ls.take j).map (·.1) ∧ k ∉ l.map (·.1)) :
    (q.1 ∈ l.map (·.1) → (gputs l (ls.take (j + 1))).length = l.length + fs.length ∧ ∀ k, k ∈ mkeys fs ↔ k ∈ (ls.take (j + 1)).map (·.1) ∧ k ∉ l.map (·.1)) ∧
    (q.1 ∉ l.map (·.1) → ∀ v, (gputs l (ls.take (j + 1))).length = l.length + (mput fs q.1 v).length ∧ ∀ k, k ∈ mkeys (mput fs q.1 v) ↔ k ∈ (ls.take (j + 1)).map (·.1) ∧ k ∉ l.map (·.1)) := by
  have et : ls.take (j + 1) = ls.take j ++ [q] := by rw [List.take_add_one, hq]; rfl
  rw [et, gputs_snoc, gput_len]
  have hmem := gputs_mem l (ls.take j) q.1
  constructor
  · intro hin
    rw [if_pos (hmem.2 (.inl hin))]
    refine ⟨hl, fun k => ?_⟩
    rw [hm, List.map_append, List.mem_append, List.map_cons, List.map_nil, List.mem_singleton]
    constructor
    · rintro ⟨h1, h2⟩; exact ⟨.inl h1, h2⟩
    · rintro ⟨h1 | h1, h2⟩
      · exact ⟨h1, h2⟩
      · rw [h1] at h2; exact absurd hin h2
  · intro hout v
    have hk := mkeys_put fs q.1 v
    have hlen : (mput fs q.1 v).length = (mkeys (mput fs q.1 v)).length := by simp [mkeys]
    have hlen2 : fs.length = (mkeys fs).length := by simp [mkeys]
    constructor
    · rw [hlen, hk]
      by_cases hin : q.1 ∈ mkeys fs
      · rw [if_pos hin, if_pos (hmem.2 (.inr ((hm _).1 hin).1)), ← hlen2]; exact hl
      · rw [if_neg hin, if_neg, List.length_append, ← hlen2]
        · simp; omega
        · intro h3
          rcases hmem.1 h3 with h3 | h3
          · exact hout h3
          · exact hin ((hm _).2 ⟨h3, hout⟩)
    · intro k
      rw [hk, List.map_append, List.mem_append, List.map_cons, List.map_nil, List.mem_singleton]
      split
      · rename_i hin
        rw [hm]
        constructor
        · rintro ⟨h1, h2⟩; exact ⟨.inl h1, h2⟩
        · rintro ⟨h1 | h1, h2⟩
          · exact ⟨h1, h2⟩
          · rw [h1]; exact (hm _).1 hin
      · rw [List.mem_append, List.mem_singleton, hm]
        constructor
        · rintro (⟨h1, h2⟩ | h1)
          · exact ⟨.inl h1, h2⟩
          · exact ⟨.inr h1, h1 ▸ hout⟩
        · rintro ⟨h1 | h1, h2⟩
          · exact .inl ⟨h1, h2⟩
          · exact .inr h1

section
variable {w : World} {L : List HP} {pb off T m : Nat} {cs : Array Value} {lv v : Value} {es : IM} {ps ls : List Pt}
set_option maxRecDepth 100000 in
set_option maxHeartbeats 2000000 in
theorem more_ok (h : SatL w (cl pb T cs :: PutsR lv ps :: MapI m es :: L)) (c0 : cs[off]? = some lv) (c1 : cs[off + 1]? = some (.map (some m))) (G : Grp es (ps.map (·.b))) (g : Gives L (RdPts v ls)) (hl : ls.length ≤ 1000000) (hpl : ps.length ≤ 1000000) :
    Calls Try.prog 56 #[.pointer (some ⟨pb, off, none⟩), v] w (Ret fun r w' => r = .int .i64 ((gputs (pds ps) (pds ls)).length : Nat) ∧ SatL w' (cl pb T cs :: PutsR lv ps :: MapI m es :: L)) := by
  obtain ⟨a, c, rfl, q1, q2⟩ := (g w (SatL.tail (SatL.tail (SatL.tail h)))).1.valn
  obtain ⟨la, lc, rfl, q3, q4⟩ := (PutsR.rdpts (SatL.pull h 1 : SatL w (PutsR _ _ :: _))).1.valn
  have hmm := @run_makeMap Try.prog
  have h0 := MapI.made (h.alloc (.map #[] 0))
  go_enter Try.func56, Try.ntmps56
  go_wp2
  generalize w.heap.size = fb at *
  go_loopw [13] (fun i wr => ∃ (j : Nat) (fs : IM), j ≤ ls.length ∧ i = .int .i64 j ∧ (gputs (pds ps) ((pds ls).take j)).length = (pds ps).length + fs.length ∧ (∀ k, k ∈ mkeys fs ↔ k ∈ ((pds ls).take j).map (·.1) ∧ k ∉ (pds ps).map (·.1)) ∧ SatL wr (MapI fb fs :: cl pb T cs :: PutsR (.slice la ps.length lc) ps :: MapI m es :: L)) (fun i _ => ls.length - (intOf i).toNat)
  case atStart => exact ⟨0, [], by omega, rfl, rfl, by simp [mkeys], h0⟩
  case round =>
    clear h0 h
    obtain ⟨j, fs, hj, rfl, hlen, hmem, hs⟩ := hrel
    have hL := hid hlen
    have hM := hid hmem
    clear hlen hmem
    by_cases hlt : j < ls.length
    · have hp : ls[j]? = some ls[j] := List.getElem?_eq_getElem hlt
      have gl := g wr (SatL.tail (SatL.tail (SatL.tail (SatL.tail hs))))
      obtain ⟨b, bo, rfl, _⟩ := gl.1.at (by omega)
      obtain ⟨k1, k2⟩ := RdPts.cell2 gl hp
      obtain ⟨va, vc, hv, i1, i2⟩ := gl.2 _ (List.getElem_mem hlt)
      rw [hv] at k2
      have hst := hid (more_step (MapI.nodup hs) (pds_get hp) hL.out hM.out)
      have hpl2 := pds_len ls
      generalize ls[j].b = qb at *
      generalize ls[j].d.length = vn at *
      have hs2 := hs.alloc (.cells #[.int .i64 qb, .slice va vn vc] 29)
      have hs3 := sat_drew.2 hs2
      have e1 := (SatL.pull hs3 2 : SatL _ (cl pb T cs :: _)).cell c0
      have e2 := (SatL.pull hs3 2 : SatL _ (cl pb T cs :: _)).cell c1
      have e3 : (wr.alloc (.cells #[.int .i64 qb, .slice va vn vc] 29)).drew.cell? ⟨wr.heap.size, 0, none⟩ = some (.int .i64 qb) := SatL.cell (hs3 : SatL _ (cl _ _ _ :: _)) rfl
      have hr := run_lookup_ok_sl key_int (SatL.pull hs3 4 : SatL _ (MapI m es :: _)) qb
      rw [G.2] at hr
      have ek : (pds ps).map (·.1) = ps.map (·.b) := by simp
      have hk1 : (j : Int) < ls.length := by omega
      clear hp hv gl hs2
      cases hpc : plc (ps.map (·.b)) qb with
      | some i =>
        rw [hpc] at hr
        have hin : qb ∈ (pds ps).map (·.1) := by rw [ek]; exact List.mem_of_getElem? (plc_get hpc)
        have hst2 := hid (hst.out.1 hin)
        clear hpc ek hin
        go_wp2
        go_region
        go_wp2
        go_roundw
        case rel => exact ⟨j + 1, fs, by omega, by go_num, hst2.out.1, hst2.out.2, SatL.tail hs3⟩
        case measure => simp [intOf]; omega
      | none =>
        rw [hpc] at hr
        have hout : qb ∉ (pds ps).map (·.1) := by rw [ek]; exact plc_none.1 hpc
        have hst2 := hid (hst.out.2 hout (.int .i64 j))
        clear hpc ek hout
        go_wp2
        go_region
        go_wp2_with (refine wpList_mapUpdate_sl rfl (.tmp 30) (.tmp 32) (.tmp 33) rfl key_int rfl (SatL.swap hs3) rfl rfl ?_; intro w2 h2)
        go_roundw
        case rel => exact ⟨j + 1, _, by omega, by go_num, hst2.out.1, hst2.out.2, SatL.tail (SatL.swap h2)⟩
        case measure => simp [intOf]; omega
    · obtain rfl : j = ls.length := by omega
      have e9 : (pds ls).take ls.length = pds ls := List.take_of_length_le (by rw [pds_len]; omega)
      rw [e9] at hL
      have hle := gputs_le (pds ps) (pds ls)
      have h3 := hL.out
      rw [pds_len] at h3 hle
      rw [pds_len] at hle
      have hfl : fs.length ≤ 9223372036854775807 := by omega
      have hs3 := sat_drew.2 hs
      have e1 := (SatL.pull hs3 1 : SatL _ (cl pb T cs :: _)).cell c0
      have hml := run_maplen_sl (ty := 3) key_int (sat_drew.2 hs) hfl
      have hz : (ps.length : Int) + (fs.length : Int) = (((gputs (pds ps) (pds ls)).length : Nat) : Int) := by rw [h3]; omega
      have Hz := hid hz
      have b1 : (ps.length : Int) + (fs.length : Int) ≤ 9223372036854775807 := by omega
      clear hz h3 hle e9 g
      go_wp2
      go_region
      go_wp2
      go_ret
      exact Ret.mk ⟨by rw [← Hz.out]; rfl, SatL.tail hs3⟩
end
end Go.Proofs.Ytjjnadlklfegcaa
