/- log of chapter 8's statements. No condition beside the sizes that it names. -/
import Derived.Test.YtjjnadlklfegcaaLaw8B
import Derived.RegionTactic
import Derived.BigRegion
import Derived.Deep.CutBlock
namespace Go.Proofs.Ytjjnadlklfegcaa
set_option linter.unusedVariables false
set_option linter.unusedSimpArgs false
open Go.RowKit

/-- a block that is laid as far as its byte k -/
def layTo (b : List UInt8) (p : PD) (k : Nat) : List UInt8 := if 0 ≤ p.1 ∧ p.1 < 66 then overlay b (512 * p.1.toNat) ((p.2.take 512).take k) else b
theorem layTo_zero (b : List UInt8) (p : PD) : layTo b p 0 = b := by unfold layTo; rw [List.take_zero, overlay_nil]; simp
theorem layTo_end {b : List UInt8} {p : PD} {k : Nat} (h : ¬ (0 ≤ p.1 ∧ p.1 < 66) ∨ 512 ≤ k ∨ p.2.length ≤ k) : layTo b p k = layOn b p := by
  unfold layTo layOn
  split
  · rename_i h0
    rcases h with h | h | h
    · exact absurd h0 h
    · rw [List.take_of_length_le (l := p.2.take 512) (by rw [List.length_take]; omega)]
    · rw [List.take_of_length_le (l := p.2.take 512) (by rw [List.length_take]; omega)]
  · rfl
theorem layTo_len {b : List UInt8} (hb : b.length = 33792) (p : PD) (k : Nat) : (layTo b p k).length = 33792 := by
  unfold layTo
  split
  · rw [overlay_len]; exact hb
    rw [List.length_take, List.length_take]; omega
  · exact hb
theorem layTo_set {b : List UInt8} (hb : b.length = 33792) {r k : Nat} {d : List UInt8} (hr : r < 66) (hk : k < 512) (hd : k < d.length) :
    (bvs (layTo b ((r : Int), d) k)).set (512 * r + k) (bv (d.getD k 0)) = bvs (layTo b ((r : Int), d) (k + 1)) := by
  rw [← List.map_set]
  congr 1
  unfold layTo
  have h0 : (0 : Int) ≤ ((r : Int), d).1 ∧ ((r : Int), d).1 < 66 := ⟨by simp, by simp; omega⟩
  rw [if_pos h0, if_pos h0]
  simp only [Int.toNat_natCast]
  have e : d.getD k 0 = (d.take 512).getD k 0 := by
    rw [List.getD_eq_getElem?_getD, List.getD_eq_getElem?_getD, List.getElem?_take, if_pos hk]
  rw [e]
  exact overlay_set (by rw [List.length_take]; omega) (by rw [List.length_take]; omega)

section
variable {w : World} {L : List HP}
set_option maxRecDepth 100000 in
set_option maxHeartbeats 2000000 in
theorem log_ok {lv : Value} {ps : List Pt} (hl : ps.length ≤ 1000000) (h : SatL w (PutsR lv ps :: L)) :
    Calls Try.prog 16 #[lv] w (Ret fun r w' => SatL w' (SlB 5 r (logB (pds ps)) :: PutsR lv ps :: L)) := by
  obtain ⟨a, c, rfl, p1, p2⟩ := (PutsR.rdpts h).1.valn
  have hz : List.replicate 33792 (Value.int .u8 0) = bvs (logB ((pds ps).take 0)) := by rw [List.take_zero]; exact (bvs_zeros 33792).symm
  have Hz := hid hz
  clear hz
  go_enter Try.func16, Try.ntmps16
  go_upto_block 0 with (refine wpList_make_sl rfl (.const (.int .i64 33792)) (.const (.int .i64 33792)) rfl elem_byte 33792 rfl rfl h (by omega) (by omega) ?_; intro w5 hs5; rw [Hz.out] at hs5)
  generalize w.heap.size = nb at *
  clear h
  go_wp2
  go_loopw [4] (fun i wr => ∃ j : Nat, j ≤ ps.length ∧ i = .int .i64 j ∧ SatL wr (SlB 5 (.slice (some ⟨nb, 0, none⟩) 33792 33792) (logB ((pds ps).take j)) :: PutsR (.slice a ps.length c) ps :: L)) (fun i _ => ps.length - (intOf i).toNat)
  case atStart => exact ⟨0, by omega, rfl, hs5⟩
  case round =>
    clear hs5 Hz
    obtain ⟨j, hj, rfl, hs⟩ := hrel
    by_cases hlt : j < ps.length
    · have hp : ps[j]? = some ps[j] := List.getElem?_eq_getElem hlt
      obtain ⟨b, off, rfl, _⟩ := (PutsR.rdpts (hs.pull 1 : SatL _ (PutsR _ _ :: _))).1.at (by omega)
      obtain ⟨va, vc, hv, q3, q4⟩ := PutsR.ptsl (hs.pull 1 : SatL _ (PutsR _ _ :: _)) _ (List.getElem_mem hlt)
      have hsn := hid (show logB ((pds ps).take (j + 1)) = layOn (logB ((pds ps).take j)) (ps[j].b, ps[j].d) by rw [List.take_add_one, pds_get hp]; exact logB_snoc _ _)
      have hc := fun (w' : World) (L' : List HP) (h : SatL w' (PutsR (.slice (some ⟨b, off, none⟩) ps.length c) ps :: L')) => PutsR.cell2 h hp
      have hrb := fun (w' : World) (L' : List HP) (h : SatL w' (PutsR (.slice (some ⟨b, off, none⟩) ps.length c) ps :: L')) => PutsR.rdb h (List.getElem_mem hlt)
      rw [hv] at hc hrb
      have hBl := logB_len ((pds ps).take j)
      generalize logB ((pds ps).take j) = B at *
      generalize ps[j].b = pb at *
      generalize ps[j].d = pd at *
      clear hp hv
      go_wp2
      have hs0 : SatL wr (SlB 5 (.slice (some ⟨nb, 0, none⟩) 33792 33792) (layTo B (pb, pd) 0) :: PutsR (.slice (some ⟨b, off, none⟩) ps.length c) ps :: L) := by rw [layTo_zero]; exact hs
      clear hs
      go_loopw [5] (fun i wr => ∃ k : Nat, k ≤ pd.length ∧ k ≤ 512 ∧ i = .int .i64 k ∧ SatL wr (SlB 5 (.slice (some ⟨nb, 0, none⟩) 33792 33792) (layTo B (pb, pd) k) :: PutsR (.slice (some ⟨b, off, none⟩) ps.length c) ps :: L)) (fun i _ => 512 - (intOf i).toNat)
      case atStart => exact ⟨0, by omega, by omega, rfl, hs0⟩
      case round =>
        clear hs0
        obtain ⟨k, hk, hk5, rfl, hs⟩ := hrel
        obtain ⟨c1, c2⟩ := hc _ _ (hs.pull 1)
        by_cases hgo : (0 ≤ pb ∧ pb < 66) ∧ k < 512 ∧ k < pd.length
        · obtain ⟨⟨g1, g2⟩, g3, g4⟩ := hgo
          obtain ⟨r, rfl⟩ : ∃ r : Nat, pb = r := ⟨pb.toNat, by omega⟩
          have hx : 512 * r + k < (bvs (layTo B ((r : Int), pd) k)).length := by rw [bvs_len, layTo_len hBl]; omega
          have hset := fun (x : Value) => Sl.set hs (i := 512 * r + k) hx x
          have hst := layTo_set hBl (r := r) (k := k) (d := pd) (by omega) g3 g4
          obtain ⟨da, do_, c3⟩ : ∃ da do_, va = some ⟨da, do_, none⟩ ∧ ∀ i, i < pd.length → wr.cell? ⟨da, do_ + i, none⟩ = some (.int .u8 (((pd.getD i 0).toNat : Nat) : Int)) := by
            obtain ⟨_, _, _, da, do_, h1, h2⟩ := (hrb _ _ (hs.pull 1)).at (by omega)
            exact ⟨da, do_, h1, h2⟩
          obtain ⟨rfl, c3⟩ := c3
          have d3 := c3 k g4
          have ct := Sl.cell hs (i := 512 * r + k) (List.getElem?_eq_getElem hx)
          have ft := Sl.free hs (512 * r + k)
          simp only [Nat.zero_add] at hset ct
          have hbv : bv (pd.getD k 0) = .int .u8 (((pd.getD k 0).toNat : Nat) : Int) := rfl
          rw [hbv] at hst
          generalize (pd.getD k 0).toNat = z at *
          generalize (bvs (layTo B ((r : Int), pd) k))[512 * r + k] = y at *
          have e1 : (512 : Int) * (r : Int) + (k : Int) = ((512 * r + k : Nat) : Int) := by omega
          have hxb : 512 * r + k < 33792 := by omega
          generalize 512 * r + k = x at *
          have Hst := hid hst
          have Hset := hid hset
          have k1 : (k : Int) < 512 := by omega
          have k2 : (k : Int) < pd.length := by omega
          have k3 : (x : Int) < 33792 := by omega
          clear hst hset hx c3 hbv
          go_wp2
          go_region
          go_wp2
          have h8 := Hset.out (.int .u8 z)
          rw [Hst.out] at h8
          go_roundw
          case rel => exact ⟨k + 1, by omega, by omega, by go_num, sat_drew.2 h8⟩
          case measure => simp [intOf]; omega
        · have he := hid (show layTo B (pb, pd) k = layOn B (pb, pd) from layTo_end (by simp only; omega))
          by_cases g4 : k < pd.length
          · have k2 : (k : Int) < pd.length := by omega
            by_cases g3 : k < 512
            · have k1 : (k : Int) < 512 := by omega
              by_cases g1 : 0 ≤ pb
              · have g2 : ¬ pb < 66 := by omega
                clear hgo
                go_wp2
                go_roundw
                case rel => exact ⟨j + 1, by omega, by go_num, by rw [hsn.out, ← he.out]; exact hs⟩
                case measure => simp [intOf]; omega
              · clear hgo
                go_wp2
                go_roundw
                case rel => exact ⟨j + 1, by omega, by go_num, by rw [hsn.out, ← he.out]; exact hs⟩
                case measure => simp [intOf]; omega
            · have k1 : ¬ (k : Int) < 512 := by omega
              clear hgo
              go_wp2
              go_roundw
              case rel => exact ⟨j + 1, by omega, by go_num, by rw [hsn.out, ← he.out]; exact hs⟩
              case measure => simp [intOf]; omega
          · have k2 : ¬ (k : Int) < pd.length := by omega
            clear hgo
            go_wp2
            go_roundw
            case rel => exact ⟨j + 1, by omega, by go_num, by rw [hsn.out, ← he.out]; exact hs⟩
            case measure => simp [intOf]; omega
    · obtain rfl : j = ps.length := by omega
      rw [List.take_of_length_le (by rw [pds_len]; omega)] at hs
      go_wp2
      go_ret
      exact Ret.mk hs
end
end Go.Proofs.Ytjjnadlklfegcaa
