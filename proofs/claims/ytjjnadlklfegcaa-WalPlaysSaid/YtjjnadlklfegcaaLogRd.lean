/- log of chapter 8's statements, of blocks that are only read. No condition beside the sizes that it names. -/
import Derived.Test.YtjjnadlklfegcaaWalRef
import Derived.Test.YtjjnadlklfegcaaLaw8C
namespace Go.Proofs.Ytjjnadlklfegcaa
set_option linter.unusedVariables false
set_option linter.unusedSimpArgs false
open Go.RowKit

/-- blocks that can be read -/
def RdPD (v : Value) (ps : List Pt) (w : World) : Prop := RdPts v ps w ∧ ∀ p ∈ ps, RdB p.v p.d w
section
variable {w : World} {L : List HP}
theorem RdPts.cell2 {b off n c j : Nat} {ps : List Pt} {p : Pt} (h : RdPts (.slice (some ⟨b, off, none⟩) n c) ps w) (hp : ps[j]? = some p) : w.cell? ⟨b, off + j * 2, none⟩ = some (.int .i64 p.b) ∧ w.cell? ⟨b, off + j * 2 + 1, none⟩ = some p.v := by
  have h0 : 0 < ps.length := by have := (List.getElem?_eq_some_iff.1 hp).1; omega
  obtain ⟨b', off', hbo, hc⟩ := h.1.at h0
  cases hbo
  obtain ⟨c1, c2⟩ := pcells_get hp
  exact ⟨hc _ _ c1, by rw [Nat.add_assoc]; exact hc _ _ c2⟩
theorem PutsR.rdpd {lv : Value} {ps : List Pt} (h : SatL w (PutsR lv ps :: L)) : RdPD lv ps w := ⟨PutsR.rdpts h, fun _ hp => PutsR.rdb h hp⟩
set_option maxRecDepth 100000 in
set_option maxHeartbeats 2000000 in
theorem log_rd {lv : Value} {ps : List Pt} (hl : ps.length ≤ 1000000) (h : SatL w L) (g : Gives L (RdPD lv ps)) :
    Calls Try.prog 16 #[lv] w (Ret fun r w' => SatL w' (SlB 5 r (logB (pds ps)) :: L)) := by
  obtain ⟨a, c, rfl, p1, p2⟩ := (g w h).1.1.valn
  have hz : List.replicate 33792 (Value.int .u8 0) = bvs (logB ((pds ps).take 0)) := by rw [List.take_zero]; exact (bvs_zeros 33792).symm
  have Hz := hid hz
  clear hz
  go_enter Try.func16, Try.ntmps16
  go_upto_block 0 with (refine wpList_make_sl rfl (.const (.int .i64 33792)) (.const (.int .i64 33792)) rfl elem_byte 33792 rfl rfl h (by omega) (by omega) ?_; intro w5 hs5; rw [Hz.out] at hs5)
  generalize w.heap.size = nb at *
  clear h
  go_wp2
  go_loopw [4] (fun i wr => ∃ j : Nat, j ≤ ps.length ∧ i = .int .i64 j ∧ SatL wr (SlB 5 (.slice (some ⟨nb, 0, none⟩) 33792 33792) (logB ((pds ps).take j)) :: L)) (fun i _ => ps.length - (intOf i).toNat)
  case atStart => exact ⟨0, by omega, rfl, hs5⟩
  case round =>
    clear hs5 Hz
    obtain ⟨j, hj, rfl, hs⟩ := hrel
    by_cases hlt : j < ps.length
    · have hp : ps[j]? = some ps[j] := List.getElem?_eq_getElem hlt
      obtain ⟨b, off, rfl, _⟩ := (g _ hs.tail).1.1.at (by omega)
      obtain ⟨va, vc, hv, q3, q4⟩ := (g _ hs.tail).1.2 _ (List.getElem_mem hlt)
      have hsn := hid (show logB ((pds ps).take (j + 1)) = layOn (logB ((pds ps).take j)) (ps[j].b, ps[j].d) by rw [List.take_add_one, pds_get hp]; exact logB_snoc _ _)
      have hc := fun (w' : World) (h : SatL w' L) => RdPts.cell2 (g w' h).1 hp
      have hrb := fun (w' : World) (h : SatL w' L) => (g w' h).2 _ (List.getElem_mem hlt)
      rw [hv] at hc hrb
      have hBl := logB_len ((pds ps).take j)
      generalize logB ((pds ps).take j) = B at *
      generalize ps[j].b = pb at *
      generalize ps[j].d = pd at *
      clear hp hv
      go_wp2
      have hs0 : SatL wr (SlB 5 (.slice (some ⟨nb, 0, none⟩) 33792 33792) (layTo B (pb, pd) 0) :: L) := by rw [layTo_zero]; exact hs
      clear hs
      go_loopw [5] (fun i wr => ∃ k : Nat, k ≤ pd.length ∧ k ≤ 512 ∧ i = .int .i64 k ∧ SatL wr (SlB 5 (.slice (some ⟨nb, 0, none⟩) 33792 33792) (layTo B (pb, pd) k) :: L)) (fun i _ => 512 - (intOf i).toNat)
      case atStart => exact ⟨0, by omega, by omega, rfl, hs0⟩
      case round =>
        clear hs0
        obtain ⟨k, hk, hk5, rfl, hs⟩ := hrel
        obtain ⟨c1, c2⟩ := hc _ hs.tail
        by_cases hgo : (0 ≤ pb ∧ pb < 66) ∧ k < 512 ∧ k < pd.length
        · obtain ⟨⟨g1, g2⟩, g3, g4⟩ := hgo
          obtain ⟨r, rfl⟩ : ∃ r : Nat, pb = r := ⟨pb.toNat, by omega⟩
          have hx : 512 * r + k < (bvs (layTo B ((r : Int), pd) k)).length := by rw [bvs_len, layTo_len hBl]; omega
          have hset := fun (x : Value) => Sl.set hs (i := 512 * r + k) hx x
          have hst := layTo_set hBl (r := r) (k := k) (d := pd) (by omega) g3 g4
          obtain ⟨da, do_, c3⟩ : ∃ da do_, va = some ⟨da, do_, none⟩ ∧ ∀ i, i < pd.length → wr.cell? ⟨da, do_ + i, none⟩ = some (.int .u8 (((pd.getD i 0).toNat : Nat) : Int)) := by
            obtain ⟨_, _, _, da, do_, h1, h2⟩ := (hrb _ hs.tail).at (by omega)
            exact ⟨da, do_, h1, h2⟩
          obtain ⟨rfl, c3⟩ := c3
          have d3 := c3 k g4
          have ct := Sl.cell hs (i := 512 * r + k) (List.getElem?_eq_getElem hx)
          have ft := Sl.free hs (512 * r + k)
          simp only [Nat.zero_add] at hset ct
          have hbv : bv (pd.getD k 0) = .int .u8 (((pd.getD k 0).toNat : Nat) : Int) := rfl
          rw [hbv] at hst
          generalize (pd.getD k 0).toNat = z at *
          generalize (bvs (layTo B ((r : Int), pd) k))[512 * r + k] = y at *
          have e1 : (512 : Int) * (r : Int) + (k : Int) = ((512 * r + k : Nat) : Int) := by omega
          have hxb : 512 * r + k < 33792 := by omega
          generalize 512 * r + k = x at *
          have Hst := hid hst
          have Hset := hid hset
          have k1 : (k : Int) < 512 := by omega
          have k2 : (k : Int) < pd.length := by omega
          have k3 : (x : Int) < 33792 := by omega
          clear hst hset hx c3 hbv
          go_wp2
          go_region
          go_wp2
          have h8 := Hset.out (.int .u8 z)
          rw [Hst.out] at h8
          go_roundw
          case rel => exact ⟨k + 1, by omega, by omega, by go_num, sat_drew.2 h8⟩
          case measure => simp [intOf]; omega
        · have he := hid (show layTo B (pb, pd) k = layOn B (pb, pd) from layTo_end (by simp only; omega))
          by_cases g4 : k < pd.length
          · have k2 : (k : Int) < pd.length := by omega
            by_cases g3 : k < 512
            · have k1 : (k : Int) < 512 := by omega
              by_cases g1 : 0 ≤ pb
              · have g2 : ¬ pb < 66 := by omega
                clear hgo
                go_wp2
                go_roundw
                case rel => exact ⟨j + 1, by omega, by go_num, by rw [hsn.out, ← he.out]; exact hs⟩
                case measure => simp [intOf]; omega
              · clear hgo
                go_wp2
                go_roundw
                case rel => exact ⟨j + 1, by omega, by go_num, by rw [hsn.out, ← he.out]; exact hs⟩
                case measure => simp [intOf]; omega
            · have k1 : ¬ (k : Int) < 512 := by omega
              clear hgo
              go_wp2
              go_roundw
              case rel => exact ⟨j + 1, by omega, by go_num, by rw [hsn.out, ← he.out]; exact hs⟩
              case measure => simp [intOf]; omega
          · have k2 : ¬ (k : Int) < pd.length := by omega
            clear hgo
            go_wp2
            go_roundw
            case rel => exact ⟨j + 1, by omega, by go_num, by rw [hsn.out, ← he.out]; exact hs⟩
            case measure => simp [intOf]; omega
    · obtain rfl : j = ps.length := by omega
      rw [List.take_of_length_le (by rw [pds_len]; omega)] at hs
      go_wp2
      go_ret
      exact Ret.mk hs
end
end Go.Proofs.Ytjjnadlklfegcaa
