/- The document's cache that is owned: Dirty. No condition beside the sizes, and that the blocks' numbers are no negative ones. -/
import Derived.Test.YtlmjjfgnpcghgaaRefCacheZ
namespace Go.Proofs.Ytlmjjfgnpcghgaa
set_option linter.unusedVariables false
set_option linter.unusedSimpArgs false
open Go.RowKit
def lenV (v : Value) : Nat := match v with | .slice _ n _ => n | _ => 0
section
variable {w : World} {l : List HP} {xb : Nat} {most : Int} {row : List Ent} {rv : Value}
set_option maxRecDepth 100000 in
set_option maxHeartbeats 4000000 in
theorem refdirty_ok (h : SatL w (RCacheR xb most row :: l)) (hlen : row.length ≤ 90000) (hpos : ∀ x ∈ row, 0 ≤ x.b) :
    Calls Try.prog 23 #[.pointer (some ⟨xb, 0, none⟩)] w (Ret (SlPost 3 ((ups (dirtyE row)).map (Value.int .i64)) (RCacheR xb most row :: l))) := by
  obtain ⟨rv, hnd, h0⟩ := RCache_open.1 h
  obtain ⟨a, c, rfl, ha1, ha2⟩ := Sl.valn (h0.pull 1 : SatL w (Sl _ _ _ :: _)) (m := row.length) (List.length_map _)
  have hc1 := hid (fun (w' : World) (X : List HP) (h : SatL w' (RCacheC xb most (.slice a row.length c) :: X)) => h.cell (i := 1) (v := .slice a row.length c) rfl)
  have hat := hid (fun t (ht : t ≤ (ups (dirtyE row)).length) => dnx_at hpos hnd ht)
  have hSl : (ups (dirtyE row)).length ≤ row.length := by rw [ups_len]; have := dirtyE_len row row.length; rwa [List.take_length] at this
  have hSp : ∀ k ∈ ups (dirtyE row), 0 ≤ k := fun k hk => by
    obtain ⟨j, x, hj, _, rfl⟩ := dirtyE_mem.1 (ups_mem.1 hk)
    exact hpos x (List.mem_of_getElem? hj)
  generalize ups (dirtyE row) = S at *
  have Hnd := hid hnd
  have H := hid h0
  have HSp := hid hSp
  have c1 := hc1.out _ _ h0
  clear h h0 hnd hpos hSp
  go_enter Try.func23, Try.ntmps23
  go_wp2
  go_loopw [3, 4] (fun lv x wr => ∃ t : Nat, t ≤ S.length ∧ x = .int .i64 (lastOf S t) ∧ lenV lv = t ∧ SatL wr (Sl 3 lv ((S.take t).map (Value.int .i64)) :: RCacheO xb most (.slice a row.length c) row l)) (fun lv _ _ => S.length - lenV lv)
  case atStart => exact ⟨0, by omega, rfl, rfl, Sl_nil H.out⟩
  case round =>
    clear H c1
    obtain ⟨t, ht, rfl, hlv, hs⟩ := hrel
    obtain ⟨oa, oc, rfl, o1, o2⟩ := Sl.valn hs (m := t) (by rw [List.length_map, List.length_take]; omega)
    have hat' := hat.out t ht
    have Hs := hid hs
    clear hs hlv
    obtain ⟨last, hlast⟩ : ∃ last, last = lastOf S t := ⟨_, rfl⟩
    rw [← hlast] at hat' ⊢
    have Hat := hid hat'
    have Hlast := hid hlast
    clear hat' hlast
    go_wp2
    go_loopw [5, 6] (fun nx x wr2 => ∃ i : Nat, i ≤ row.length ∧ x = .int .i64 i ∧ nx = .int .i64 (dnx row last i) ∧ wr = wr2) (fun _ x _ => row.length - (intOf x).toNat)
    case atStart => exact ⟨0, by omega, rfl, rfl, rfl⟩
    case round =>
      obtain ⟨i, hi, rfl, rfl, rfl⟩ := hrel
      have c1 := hc1.out _ _ (Hs.out.pull 1)
      by_cases hlt : i < row.length
      · have hiz : (i : Int) < row.length := by omega
        obtain ⟨x, hx⟩ : ∃ x, row[i]? = some x := ⟨_, List.getElem?_eq_getElem hlt⟩
        obtain ⟨b, o, rfl, cp⟩ := rptr_cell hx (Hs.out.pull 2)
        obtain ⟨e0, _, e2, _⟩ := rcells hx (Hs.out.pull 3)
        have hds := dnx_succ (last := last) hx
        clear hx
        generalize x.eb = xe at *
        generalize x.b = xn at *
        generalize x.dirty = xd at *
        obtain ⟨d2, hd2e⟩ : ∃ d2, d2 = dnx row last (i + 1) := ⟨_, rfl⟩
        rw [← hd2e] at hds
        have Hd2 := hid hd2e
        clear hd2e
        generalize dnx row last i = d1 at *
        have fin : ∀ z : Int, z = d2 → z = d2 := fun z h => h
        cases xd with
        | false =>
          have hd2 : d2 = d1 := by rw [hds, if_neg (by simp)]
          subst hd2
          clear hds
          go_wp2
          go_roundw
          case rel => exact ⟨i + 1, by omega, by go_num, by rw [← Hd2.out], trivial⟩
          case measure => simp [intOf]; omega
        | true =>
          by_cases q1 : last < xn
          · by_cases q2 : d1 < 0
            · have hd2 : d2 = xn := by rw [hds, if_pos ⟨rfl, q1, .inl q2⟩]
              subst hd2
              clear hds
              go_wp2
              go_roundw
              case rel => exact ⟨i + 1, by omega, by go_num, by rw [← Hd2.out], trivial⟩
              case measure => simp [intOf]; omega
            · by_cases q3 : xn < d1
              · have hd2 : d2 = xn := by rw [hds, if_pos ⟨rfl, q1, .inr q3⟩]
                subst hd2
                clear hds
                go_wp2
                go_roundw
                case rel => exact ⟨i + 1, by omega, by go_num, by rw [← Hd2.out], trivial⟩
                case measure => simp [intOf]; omega
              · have hd2 : d2 = d1 := by rw [hds, if_neg (by rintro ⟨_, _, h | h⟩; exact q2 h; exact q3 h)]
                subst hd2
                clear hds
                go_wp2
                go_roundw
                case rel => exact ⟨i + 1, by omega, by go_num, by rw [← Hd2.out], trivial⟩
                case measure => simp [intOf]; omega
          · have hd2 : d2 = d1 := by rw [hds, if_neg (fun h => q1 h.2.1)]
            subst hd2
            clear hds
            go_wp2
            go_roundw
            case rel => exact ⟨i + 1, by omega, by go_num, by rw [← Hd2.out], trivial⟩
            case measure => simp [intOf]; omega
      · obtain rfl : i = row.length := by omega
        rw [Hat.out]
        by_cases htl : t < S.length
        · obtain ⟨k, hk⟩ : ∃ k, S[t]? = some k := ⟨_, List.getElem?_eq_getElem htl⟩
          have hk0 : 0 ≤ k := HSp.out k (List.mem_of_getElem? hk)
          have e1 : S.getD t (-1) = k := by rw [List.getD_eq_getElem?_getD, hk]; rfl
          rw [e1]
          have Hl2 := hid (show lastOf S (t + 1) = k by unfold lastOf; rw [if_neg (by omega), Nat.add_sub_cancel]; exact e1)
          have Hsn := hid (show (S.take t).map (Value.int .i64) ++ [.int .i64 k] = (S.take (t + 1)).map (Value.int .i64) by rw [List.take_add_one, hk]; simp)
          have hln : ((S.take t).map (Value.int .i64)).length ≤ 100000 := by rw [List.length_map, List.length_take]; omega
          have b1 : (((S.take t).map (Value.int .i64)).length + 1) * 8 ≤ 140737488355328 := by omega
          have hs := Hs.out
          have hlS := hid (show ((S.take (t + 1)).map (Value.int .i64)).length = t + 1 by rw [List.length_map, List.length_take]; omega)
          clear hk e1 Hat Hs
          generalize (S.take t).map (Value.int .i64) = OL at *
          go_wp2_with (at_builtin; refine wpList_push_sl rfl (.tmp 55) (.tmp 57) rfl elem_int (by decide) rfl hs rfl rfl b1 ?_; intro v5 w5 h5; rw [Hsn.out] at h5; obtain ⟨a5, c5, rfl, _, _⟩ := Sl.valn h5 hlS.out)
          go_roundw
          case rel => exact ⟨t + 1, by omega, by rw [Hl2.out], rfl, h5⟩
          case measure => simp [lenV]; omega
        · obtain rfl : t = S.length := by omega
          have e1 : S.getD S.length (-1) = -1 := by rw [List.getD_eq_getElem?_getD, List.getElem?_eq_none (Nat.le_refl _)]; rfl
          rw [e1]
          have hs := Hs.out
          rw [List.take_length] at hs
          have H2 := hid (SatL.swap (RCache_open.2 ⟨_, Hnd.out, hs.bring [1, 2, 3, 0]⟩ : SatL wr (RCacheR xb most row :: _)))
          clear hs Hs e1 Hat
          go_wp2
          go_ret
          exact Ret.mk H2.out
end
end Go.Proofs.Ytlmjjfgnpcghgaa
