/- The document's queue: Heads. No condition beside that they are descriptors' numbers. -/
import Derived.Test.YtnniipeoahpkcaaR3U
namespace Go.Proofs.Ytnniipeoahpkcaa
set_option linter.unusedVariables false
set_option linter.unusedSimpArgs false
open Go.RowKit
/-- how often a key stands among the first -/
def keyCnt (rs : Chs) (i : Nat) (k : Int) : Bool := ((rs.take i).find? fun r => r.k == k).isSome
theorem keyCnt_all (rs : Chs) (k : Int) : keyCnt rs rs.length k = (ofget rs k).isSome := by
  unfold keyCnt ofget; rw [List.take_length, Option.isSome_map]
theorem keyCnt_snoc {rs : Chs} {i : Nat} {s : Rf (List Nat)} {k : Int} (h : rs[i]? = some s) : keyCnt rs (i + 1) k = (keyCnt rs i k || (s.k == k)) := by
  unfold keyCnt
  rw [List.take_add_one, h, List.find?_append]
  cases h1 : (rs.take i).find? fun r => r.k == k with
  | some x => simp
  | none =>
    cases h2 : s.k == k <;> simp [h2]
theorem keyCnt_once {rs : Chs} {i : Nat} {s : Rf (List Nat)} (hn : (rs.map (·.k)).Nodup) (h : rs[i]? = some s) : keyCnt rs i s.k = false := by
  unfold keyCnt
  rw [find_no]; rfl
  intro r hr e
  obtain ⟨t, ht⟩ := List.getElem?_of_mem hr
  rw [List.getElem?_take] at ht
  split at ht
  · rename_i hlt
    have h1 : (rs.map (·.k))[t]? = some s.k := by rw [List.getElem?_map, ht, ← e]; rfl
    have h2 : (rs.map (·.k))[i]? = some s.k := by rw [List.getElem?_map, h]; rfl
    have := (List.getElem?_inj (by have := (List.getElem?_eq_some_iff.1 h1).1; exact this) hn).1 (h1.trans h2.symm)
    omega
  · cases ht
def flyK (d : Dr) (k : Nat) : List Nat := (List.range k).filter fun i => (d.ch (i : Int)).isSome
theorem flyK_snoc (d : Dr) (k : Nat) : flyK d (k + 1) = flyK d k ++ (if (d.ch (k : Int)).isSome then [k] else []) := by
  unfold flyK
  rw [List.range_succ, List.filter_append]
  congr 1
  cases h : (d.ch (k : Int)).isSome <;> simp [h]
theorem flyK_len (d : Dr) (k : Nat) : (flyK d k).length ≤ k := by
  unfold flyK; exact Nat.le_trans (List.length_filter_le _ _) (by simp)
section
variable {w : World} {L : List HP} {db mb o N c : Nat} {d : Dr}
set_option maxRecDepth 100000 in
set_option maxHeartbeats 4000000 in
theorem refheads_ok (hn : d.r.n ≤ 256) (hkey : ∀ k c, d.ch k = some c → 0 ≤ k ∧ k < d.r.n) (h : SatL w (XDrvR db mb o N c d :: L)) :
    Calls Try.prog 23 #[.pointer (some ⟨db, 0, none⟩)] w (Ret fun v w' => SatL w' (NatsL v d.flyN :: XDrvR db mb o N c d :: L)) := by
  obtain ⟨tv, fv, rs, ⟨hch, hnd⟩, h1⟩ := sat_XDrvR.1 h
  clear h
  obtain ⟨fa, fc, rfl, f1, f2⟩ := SlK.valn (h1.pull 2 : SatL w (SlK _ _ _ _ _ :: _))
  have hrl : rs.length ≤ d.r.n := chs_len hnd (fun r hr => by
    have : (ofget rs r.k).isSome = true := mem_rfm.1 (List.mem_map.2 ⟨(r.k, r.v), List.mem_map.2 ⟨r, hr, rfl⟩, rfl⟩)
    rw [← hch] at this
    obtain ⟨x, hx⟩ := Option.isSome_iff_exists.1 this
    exact hkey _ _ hx)
  have hcl := hid (fun (w' : World) (X : List HP) (h : SatL w' (cl db 89 (xdrvV mb o N c d.r tv (.slice fa rs.length fc)).toArray :: X)) => (⟨h.cell (i := 2) rfl, h.cell (i := 6) rfl⟩ : w'.cell? ⟨db, 2, none⟩ = some (.int .i64 d.r.n) ∧ w'.cell? ⟨db, 6, none⟩ = some (.slice fa rs.length fc)))
  have hrow := hid (fun (w' : World) (X : List HP) (j : Nat) (s : Rf (List Nat)) (hs1 : rs[j]? = some s) (h : SatL w' (ChL (.slice fa rs.length fc) rs :: X)) => (by
    have h' : SatL w' (SlK 95 2 (.slice fa rs.length fc) rs.length (chRow rs) :: X) := h
    have hl : j < rs.length := (List.getElem?_eq_some_iff.1 hs1).1
    rcases SlK.form h' with ⟨_, h0, _⟩ | ⟨b, off, cc, hv, _⟩
    · omega
    · cases hv
      exact ⟨_, _, rfl, SlK.cell h' (chRow_get hs1).1⟩ : ∃ b off, fa = some ⟨b, off, none⟩ ∧ w'.cell? ⟨b, off + j * 2, none⟩ = some (.int .i64 s.k)))
  have hones := hid (fun (i k : Nat) (s : Rf (List Nat)) (h : rs[i]? = some s) => keyCnt_snoc (k := (k : Int)) h)
  have honce := hid (fun (i : Nat) (s : Rf (List Nat)) (h : rs[i]? = some s) => keyCnt_once hnd h)
  have hall := hid (fun k : Nat => (by rw [keyCnt_all, hch] : keyCnt rs rs.length (k : Int) = (d.ch (k : Int)).isSome))
  have hsn := hid (flyK_snoc d)
  have hfl := hid (flyK_len d)
  have hnz : (d.r.n : Int) ≤ 256 := by omega
  have hback := hid (fun (w' : World) (X : List HP) (h : SatL w' (cl db 89 (xdrvV mb o N c d.r tv (.slice fa rs.length fc)).toArray :: Sl 4 tv (d.busy.map Value.bool) :: ChL (.slice fa rs.length fc) rs :: big (fun r : Rf (List Nat) => NatsL r.v r.xs) rs :: X)) => (sat_XDrvR.2 ⟨_, _, rs, ⟨hch, hnd⟩, h⟩ : SatL w' (XDrvR db mb o N c d :: X)))
  have H1 := hid h1
  clear h1 hch hnd hkey
  go_enter Try.func23, Try.ntmps23
  go_wp2
  go_loopw [3, 4] (fun ov kv wr => ∃ k : Nat, k ≤ d.r.n ∧ kv = .int .i64 k ∧ SatL wr (NatsL ov (flyK d k) :: cl db 89 (xdrvV mb o N c d.r tv (.slice fa rs.length fc)).toArray :: Sl 4 tv (d.busy.map Value.bool) :: ChL (.slice fa rs.length fc) rs :: big (fun r : Rf (List Nat) => NatsL r.v r.xs) rs :: L)) (fun _ kv _ => d.r.n - (intOf kv).toNat)
  case atStart => exact ⟨0, by omega, rfl, Sl_nil H1.out⟩
  case round =>
    clear H1
    obtain ⟨k, hk, rfl, hs⟩ := hrel
    obtain ⟨c2, c6⟩ := hcl.out _ _ (hs.pull 1)
    by_cases hlt : k < d.r.n
    · have hkz : (k : Int) < d.r.n := by omega
      have Hs := hid hs
      clear hs
      go_wp2
      go_loopw [3, 5] (fun ov iv wr => ∃ i : Nat, i ≤ rs.length ∧ iv = .int .i64 i ∧ SatL wr (NatsL ov (flyK d k ++ if keyCnt rs i k then [k] else []) :: cl db 89 (xdrvV mb o N c d.r tv (.slice fa rs.length fc)).toArray :: Sl 4 tv (d.busy.map Value.bool) :: ChL (.slice fa rs.length fc) rs :: big (fun r : Rf (List Nat) => NatsL r.v r.xs) rs :: L)) (fun _ iv _ => rs.length - (intOf iv).toNat)
      case atStart => exact ⟨0, by omega, rfl, by simpa [keyCnt] using Hs.out⟩
      case round =>
        clear Hs c2 c6
        obtain ⟨i, hi, rfl, hs⟩ := hrel
        obtain ⟨c2, c6⟩ := hcl.out _ _ (hs.pull 1)
        obtain ⟨oa, on, oc, rfl⟩ := SlK.val (hs : SatL wr (SlK _ _ _ _ _ :: _))
        by_cases hil : i < rs.length
        · obtain ⟨s, hs1⟩ : ∃ s, rs[i]? = some s := ⟨_, List.getElem?_eq_getElem hil⟩
          obtain ⟨fb, fo, rfl, ck⟩ := hrow.out _ _ _ _ hs1 (hs.pull 3)
          have hiz : (i : Int) < rs.length := by omega
          have e1 := hones.out i k s hs1
          have e2 := honce.out i s hs1
          by_cases hk2 : s.k = (k : Int)
          · rw [hk2] at e1 e2 ck
            have hb : keyCnt rs (i + 1) k = true := by rw [e1]; simp
            rw [e2, if_neg (by simp), List.append_nil] at hs
            have b1 : ((natV (flyK d k)).length + 1) * 8 ≤ 140737488355328 := by have := hfl.out k; unfold natV; rw [List.length_map]; omega
            have e3 := hid (show natV (flyK d k) ++ [Value.int .i64 (k : Int)] = natV (flyK d k ++ if keyCnt rs (i + 1) k then [k] else []) by rw [hb]; unfold natV; simp)
            clear e1 e2 hs1 hb hk2
            go_wp2_with (first
              | (at_builtin; refine wpList_push_sl rfl (.tmp 33) (.tmp 35) rfl elem_int (by decide) rfl hs rfl rfl b1 ?_; intro v5 w5 h5; rw [e3.out] at h5))
            go_roundw
            case rel => exact ⟨i + 1, by omega, by go_num, h5⟩
            case measure => simp [intOf]; omega
          · have hb : keyCnt rs (i + 1) k = keyCnt rs i k := by
              rw [e1, show (s.k == (k : Int)) = false by simpa using hk2, Bool.or_false]
            rw [← hb] at hs
            have Hs := hid hs
            clear e1 e2 hs1 hb hs
            go_wp2
            go_roundw
            case rel => exact ⟨i + 1, by omega, by go_num, Hs.out⟩
            case measure => simp [intOf]; omega
        · obtain rfl : i = rs.length := by omega
          rw [hall.out k, ← hsn.out k] at hs
          have Hs := hid hs
          clear hs
          go_wp2
          go_roundw
          case rel => exact ⟨k + 1, by omega, by go_num, Hs.out⟩
          case measure => simp [intOf]; omega
    · obtain rfl : k = d.r.n := by omega
      obtain ⟨oa, on, oc, rfl⟩ := SlK.val (hs : SatL wr (SlK _ _ _ _ _ :: _))
      have hfin := hback.out _ _ (hs.bring [1, 2, 3, 4, 0])
      have Hf := hid (SatL.swap hfin)
      clear hs hfin
      go_wp2
      go_ret
      exact Ret.mk Hf.out
end
end Go.Proofs.Ytnniipeoahpkcaa
