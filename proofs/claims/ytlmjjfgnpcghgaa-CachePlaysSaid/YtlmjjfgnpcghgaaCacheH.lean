/- Dirty of a cache that is owned: the places of the blocks that are dirty, rising. No condition. -/
import Derived.Test.YtlmjjfgnpcghgaaCacheG
import Derived.Test.YtlmjjfgnpcghgaaSortInts
namespace Go.Proofs.Ytlmjjfgnpcghgaa
set_option linter.unusedVariables false
set_option linter.unusedSimpArgs false
open Go.RowKit

def dirtyE (row : List Ent) : List Int := (row.filter (·.dirty)).map (·.b)
def bdirty (bs : List Blk) : List Int := (bs.filter (·.dirty)).map (·.b)
theorem dirtyE_blk (row : List Ent) : bdirty (row.map Ent.blk) = dirtyE row := by
  unfold bdirty dirtyE
  rw [List.filter_map, List.map_map]; rfl
theorem dirtyE_succ {row : List Ent} {k : Nat} {x : Ent} (h : row[k]? = some x) : dirtyE (row.take (k + 1)) = dirtyE (row.take k) ++ (if x.dirty then [x.b] else []) := by
  unfold dirtyE
  rw [List.take_add_one, h, Option.toList_some, List.filter_append, List.map_append, List.filter_cons]
  cases x.dirty <;> rfl
theorem dirtyE_len (row : List Ent) (k : Nat) : (dirtyE (row.take k)).length ≤ row.length := by
  unfold dirtyE
  rw [List.length_map]
  exact Nat.le_trans (List.length_filter_le _ _) (by rw [List.length_take]; omega)

section
variable {w : World} {l : List HP} {pb : Nat} {most : Int} {row : List Ent} {bs : List Blk}
set_option maxHeartbeats 2000000 in
theorem dirty_ok (h : SatL w (CacheR pb most row :: l)) (hlen : row.length ≤ 100000) :
    Calls Try.prog 22 #[.pointer (some ⟨pb, 0, none⟩)] w (Ret (SlPost 3 ((ups (dirtyE row)).map (Value.int .i64)) (CacheR pb most row :: l))) := by
  obtain ⟨rv, mb, es, hm, hs⟩ := Cache_open.1 h
  have c1 : w.cell? ⟨pb, 1, none⟩ = some rv := hs.cell (i := 1) rfl
  obtain ⟨a, n, c, rfl⟩ := Sl.val (hs.pull 1)
  obtain ⟨hnl, hnc, hcm⟩ := Sl.lenEq (hs.pull 1)
  rw [List.length_map] at hnl
  subst hnl
  unfold maxLen at hcm
  have hl0 : row.length ≤ 9223372036854775807 := by omega
  go_enter Try.func22, Try.ntmps22
  go_wp2
  go_loopw [3, 11] (fun out i wr => ∃ k : Nat, k ≤ row.length ∧ i = .int .i64 k ∧ SatL wr (Sl 3 out ((dirtyE (row.take k)).map (Value.int .i64)) :: CacheO pb most (.slice a row.length c) mb es row l)) (fun _ i _ => row.length - (intOf i).toNat)
  case atStart => exact ⟨0, Nat.zero_le _, rfl, Sl_nil hs⟩
  case round =>
    obtain ⟨k, hk, rfl, hs1⟩ := hrel
    by_cases hlt : k < row.length
    · obtain ⟨b, off, rfl⟩ := Sl.addr (hs.pull 1) (by omega)
      have hx : row[k]? = some row[k] := List.getElem?_eq_getElem hlt
      have hc := Sl.cell (hs1.pull 2) (i := k) (x := eptr row[k]) (by rw [List.getElem?_map, hx]; rfl)
      obtain ⟨x, hxk⟩ : ∃ x, x = row[k] := ⟨_, rfl⟩
      rw [← hxk] at hc hx
      have htk := hid (dirtyE_succ hx)
      have hmem : x ∈ row := List.mem_of_getElem? hx
      obtain ⟨r1, r2, hrr⟩ := List.append_of_mem hmem
      have hd : wr.cell? ⟨x.eb, 3, none⟩ = some (.int .i64 x.b) ∧ wr.cell? ⟨x.eb, 1, none⟩ = some (.bool x.dirty) := by
        have q := hs1.pull 4
        rw [hrr] at q
        have q2 := (EntR_open.1 (big_mid.1 (q : SatL wr (ER _ :: _))))
        exact ⟨q2.cell (i := 3) rfl, q2.cell (i := 1) rfl⟩
      obtain ⟨hd, hd1⟩ := hd
      unfold eptr at hc
      clear hrr hx hmem hxk
      have hdl := dirtyE_len row k
      have hln : ((dirtyE (row.take k)).map (Value.int .i64)).length ≤ 100000 := by rw [List.length_map]; omega
      have hone : ∀ y ∈ [Value.int .i64 x.b], y.oneCell' = true := by simp [Value.oneCell']
      have b1 : (((dirtyE (row.take k)).map (Value.int .i64)).length + 1) * 8 ≤ 140737488355328 := by omega
      have b2 : ((dirtyE (row.take k)).map (Value.int .i64)).length + 1 ≤ maxLen := by unfold maxLen; omega
      obtain ⟨xd, hxd⟩ : ∃ d, d = x.dirty := ⟨_, rfl⟩
      rw [← hxd] at hd1
      cases xd with
      | true =>
        have Htk := hid (show dirtyE (row.take (k + 1)) = dirtyE (row.take k) ++ [x.b] by rw [htk.out, ← hxd]; rfl)
        clear htk hxd hdl
        go_wp2_with (at_builtin; refine wpList_append_sl rfl (.tmp 20) (.tmp 25) rfl elem_int rfl (Sl.toK (SatL.swap (SatL.alloc hs1 (.cells #[.int .i64 x.b] 3))) rfl) rfl (SrcOk.ofCl (n := 1) elem_int.under (SatL.alloc hs1 (.cells #[.int .i64 x.b] 3)) rfl 1) hone b1 b2 ?_; intro v' w' h6 _)
        go_roundw
        case rel =>
          refine ⟨k + 1, by omega, by go_num, ?_⟩
          rw [Htk.out, List.map_append]
          exact (SatL.tail (SatL.swap (Sl.ofK h6)))
        case measure => simp [intOf]; omega
      | false =>
        have Htk := hid (show dirtyE (row.take (k + 1)) = dirtyE (row.take k) by rw [htk.out, ← hxd]; simp)
        clear htk hxd hdl
        go_wp2
        go_roundw
        case rel =>
          refine ⟨k + 1, by omega, by go_num, ?_⟩
          rw [Htk.out]
          exact hs1
        case measure => simp [intOf]; omega
    · obtain rfl : k = row.length := by omega
      rw [List.take_length] at hs1
      have hso := sort_ok hs1 (by have := dirtyE_len row row.length; rw [List.take_length] at this; omega)
      go_wp2_with (go_at_call 39; (with_reducible refine hso.mono ?_); rintro e w' ⟨r, rfl, rfl, hs2⟩)
      go_ret
      exact Ret.mk ((Cache_open.2 ⟨_, mb, es, hm, hs2.bring [1, 2, 3, 4]⟩ : SatL _ (CacheR _ _ _ :: _)).swap)
theorem dirty_A (h : SatL w (CacheA pb most bs :: l)) (hb : bs.length ≤ 100000) :
    Calls Try.prog 22 #[.pointer (some ⟨pb, 0, none⟩)] w (Ret (SlPost 3 ((ups (bdirty bs)).map (Value.int .i64)) (CacheA pb most bs :: l))) := by
  obtain ⟨row, rfl, h0⟩ := CacheA_open.1 h
  refine (dirty_ok h0 (by simpa using hb)).mono ?_
  rintro e w' ⟨v, he, hv⟩
  refine ⟨v, he, ?_⟩
  rw [dirtyE_blk]
  exact (CacheA_open.2 ⟨row, rfl, hv.swap⟩ : SatL w' (CacheA _ _ _ :: _)).swap
end
end Go.Proofs.Ytlmjjfgnpcghgaa
