/- Disks: Versions, Platter, Read of blocks that are there. No condition beside the sizes that it names. -/
import Derived.Test.YtjjiljijcigekaaDiskR
namespace Go.Proofs.Ytjjiljijcigekaa
set_option linter.unusedVariables false
set_option linter.unusedSimpArgs false
open Go.RowKit
section
variable {w : World} {L : List HP} {db m : Nat} {s : Dsk}
theorem versions_ok {i : Nat} (hi : i < s.n) (hl : (s.V i).length ≤ 1000000) (h : SatL w (DskR db s :: L)) :
    Calls Try.prog 18 #[.pointer (some ⟨db, 0, none⟩), .int .i64 i] w (Ret fun r w' => r = .tuple #[.int .i64 (s.V i).length, .int .i64 0] ∧ w = w') := by
  obtain ⟨b, off, c, m, fl, ok, q1, q2, h1⟩ := DskR.form h
  have hbd := ok.bd
  have hha := has_yes (p := i) (n := 1) h ⟨by omega, by omega, by omega, by omega⟩
  have c1 := SatL.cell h1 (i := 1) (v := .map (some m)) rfl
  obtain ⟨u, hlk, hu⟩ := vers_look (SatL.pull h1 2 : SatL w (MapF RowsL m (vf s.V) :: _)) i
  clear h1 h
  generalize s.V i = vs at *
  have key : ∃ a n c, u = .slice a n c ∧ n = vs.length := by
    rcases hu with ⟨rfl, rfl⟩ | ⟨_, b, off, c, rfl, _⟩
    · exact ⟨_, _, _, rfl, rfl⟩
    · exact ⟨_, _, _, rfl, rfl⟩
  clear hu
  obtain ⟨a, n, c, rfl, rfl⟩ := key
  generalize vs.length = n at *
  go_enter Try.func18, Try.ntmps18
  go_wp2_with (first | (go_at_call 22; (with_reducible refine hha.mono ?_); rintro e w' ⟨v, rfl, rfl, rfl⟩))
  go_ret2
  exact Ret.mk ⟨rfl, rfl⟩
theorem platter_ok {i : Nat} (hi : i < s.n) (h : SatL w (DskR db s :: L)) :
    Calls Try.prog 34 #[.pointer (some ⟨db, 0, none⟩), .int .i64 i] w (Ret fun r w' => ∃ v, r = .tuple #[v, .int .i64 0] ∧ SatL w' (SlB 5 v (s.P i) :: DskR db s :: L)) := by
  obtain ⟨b, off, c, m, fl, ok, q1, q2, h1⟩ := DskR.form h
  have hbd := ok.bd
  have hha := has_yes (p := i) (n := 1) h ⟨by omega, by omega, by omega, by omega⟩
  have c0 := SatL.cell h1 (i := 0) (v := .slice (some ⟨b, off, none⟩) (512 * s.n) c) rfl
  have hst := stays_eq hi hbd.2 ⟨q1, q2⟩ c0
  have hcl := clone_rd (v := .slice (some ⟨b, off + 512 * i, none⟩) 512 (c - 512 * i)) (xs := s.P i) h1 (fun w' h' => by rw [← ok.pl i hi]; exact plat_row ok.len hi (SlB.rd (SatL.pull h' 1 : SatL w' (SlB _ _ _ :: _)))) (by rw [← ok.pl i hi, rowAt_len ok.len hi]; omega)
  have Ok := hid ok
  clear ok h h1
  generalize 512 * i = x at *
  generalize s.P i = pi at *
  go_enter Try.func34, Try.ntmps34
  go_wp2_with (first
    | (go_at_call 22; (with_reducible refine hha.mono ?_); rintro e w' ⟨v, rfl, rfl, rfl⟩)
    | (go_at_call 25; (with_reducible refine hst.mono ?_); rintro e w' ⟨v, rfl, rfl, rfl⟩)
    | (go_at_call 24; (with_reducible refine hcl.mono ?_); rintro e w2 ⟨v, rfl, h2⟩))
  go_ret2
  exact Ret.mk ⟨_, rfl, (sat_DskR.2 ⟨_, _, _, Ok.out, h2.bring [1, 2, 3, 0]⟩).swap⟩
theorem read_nil (s : Dsk) (p : Nat) : s.read p 0 = [] := rfl
theorem cur_len {fl : List UInt8} (ok : DOk s fl) {i : Nat} (hi : i < s.n) : (s.cur i).length = 512 := by
  unfold Dsk.cur
  cases hv : (s.V i).getLast? with
  | none => simp only; rw [← ok.pl i hi]; exact rowAt_len ok.len hi
  | some r => exact ok.row i r (List.mem_of_getLast? hv)
theorem read_len {fl : List UInt8} (ok : DOk s fl) {p : Nat} : ∀ n, p + n ≤ s.n → (s.read p n).length = 512 * n
  | 0, _ => rfl
  | n + 1, h => by rw [read_snoc, List.length_append, read_len ok n (by omega), cur_len ok (by omega)]; omega
set_option maxRecDepth 100000 in
set_option maxHeartbeats 2000000 in
theorem read_ok {p n : Nat} (hn : 1 ≤ n) (hp : p + n ≤ s.n) (hV : ∀ i, (s.V i).length ≤ 1000000) (h : SatL w (DskR db s :: L)) :
    Calls Try.prog 13 #[.pointer (some ⟨db, 0, none⟩), .int .i64 p, .int .i64 n] w (Ret fun r w' => ∃ v, r = .tuple #[v, .int .i64 0] ∧ SatL w' (SlB 5 v (s.read p n) :: DskR db s :: L)) := by
  have hsn : s.n ≤ 65536 := by obtain ⟨_, _, _, _, _, ok, _⟩ := DskR.form h; exact ok.bd.2
  have hha := has_yes (p := p) (n := n) h ⟨by omega, by omega, by omega, by omega⟩
  have hrl := hid (fun (j : Nat) (hj : p + j ≤ s.n) => by obtain ⟨_, _, _, _, fl, ok, _⟩ := DskR.form h; exact read_len ok j hj)
  have hcl := hid (fun (j : Nat) (hj : j < s.n) => by obtain ⟨_, _, _, _, fl, ok, _⟩ := DskR.form h; exact cur_len ok hj)
  have HV := hid hV
  clear hV
  go_enter Try.func13, Try.ntmps13
  go_wp2_with (first
    | (go_at_call 22; (with_reducible refine hha.mono ?_); rintro e w' ⟨v, rfl, rfl, rfl⟩))
  go_loopw [8, 9] (fun out v wr => ∃ j i : Nat, j ≤ n ∧ i = p + j ∧ v = .int .i64 i ∧ SatL wr (SlB 5 out (s.read p j) :: DskR db s :: L)) (fun _ i _ => p + n - (intOf i).toNat)
  case atStart => exact ⟨0, p, by omega, rfl, rfl, Sl_nil h⟩
  case round =>
    clear h hha
    obtain ⟨j, i, hj, hi, rfl, hs⟩ := hrel
    obtain ⟨oa, oc, rfl, o1, o2⟩ := SlB.valn hs
    have hlen := hrl.out j (by omega)
    by_cases hlt : j < n
    · obtain ⟨b, off, c, m, fl, ok, q1, q2, h1⟩ := DskR.form (SatL.pull hs 1 : SatL wr (DskR db s :: _))
      have c0 := SatL.cell h1 (i := 0) (v := .slice (some ⟨b, off, none⟩) (512 * s.n) c) rfl
      have c1 := SatL.cell h1 (i := 1) (v := .map (some m)) rfl
      have hin : i < s.n := by omega
      have hcur := hcl.out i hin
      have hsn' := read_snoc s p j
      rw [← hi] at hsn'
      have hpl := plat_row ok.len hin (SlB.rd (SatL.pull h1 1 : SatL wr (SlB _ _ _ :: _)))
      have hst := stays_eq (db := db) hin hsn ⟨q1, q2⟩ c0
      obtain ⟨u, hlk, hu⟩ := vers_look (SatL.pull h1 2 : SatL wr (MapF RowsL m (vf s.V) :: _)) i
      have hVi := HV.out i
      have hiz : (i : Int) < (p : Int) + (n : Int) := by omega
      have hK : SatL wr (SlK 5 1 (.slice oa (s.read p j).length oc) (s.read p j).length (bvs (s.read p j)) :: DskR db s :: L) := Sl.toK hs (bvs_len _)
      have e2 : ((s.read p j).length + 512) * 1 ≤ 140737488355328 := by omega
      have e3 : (s.read p j).length + 512 ≤ maxLen := by unfold maxLen; omega
      have hcr : (s.V i = [] ∧ s.cur i = rowAt fl i) ∨ (∃ r, (s.V i)[(s.V i).length - 1]? = some r ∧ s.cur i = r) := by
        unfold Dsk.cur
        cases hv : (s.V i).getLast? with
        | none => exact .inl ⟨List.getLast?_eq_none_iff.1 hv, (ok.pl i hin).symm⟩
        | some r => exact .inr ⟨r, by rw [← List.getLast?_eq_getElem?]; exact hv, rfl⟩
      have hrow : (rowAt fl i).length = 512 := rowAt_len ok.len hin
      have Hi := hid hi
      have Hlen := hid hlen
      have Hsn := hid hsn'
      clear hi hlen hsn' ok h1 hs
      generalize s.read p j = rd at *
      generalize s.cur i = cu at *
      generalize s.V i = vs at *
      generalize rowAt fl i = ro at *
      generalize 512 * i = x at *
      rcases hu with ⟨rfl, rfl⟩ | ⟨hne, vb, vo, vc, rfl, w1, w2, hrd⟩
      · have hce : cu = ro := by
          rcases hcr with ⟨_, h⟩ | ⟨r, h, _⟩
          · exact h
          · simp at h
        subst hce
        have hsrc := SrcOk.ofRdB hpl
        have Hx := hid hcur
        clear hcr hVi
        rw [hcur] at hsrc
        clear hcur hrow
        go_wp2_with (first
          | (go_at_call 25; (with_reducible refine hst.mono ?_); rintro e w' ⟨v, rfl, rfl, rfl⟩)
          | (at_builtin; refine wpList_append_sl rfl (.tmp 41) (.tmp 44) rfl elem_byte rfl hK rfl hsrc (bvs_one _) e2 e3 ?_; intro v9 w9 h9 _))
        go_roundw
        case rel => exact ⟨j + 1, i + 1, by omega, by have := Hi.out; omega, by go_num, by rw [Hsn.out]; exact SlB.app (Sl.ofK h9)⟩
        case measure => have := Hi.out; simp [intOf]; omega
      · have hl0 : 0 < vs.length := List.length_pos_iff.2 hne
        obtain ⟨r, hr, rfl⟩ : ∃ r, vs[vs.length - 1]? = some r ∧ cu = r := by
          rcases hcr with ⟨h, _⟩ | h
          · exact absurd h hne
          · exact h
        obtain ⟨u, cu', hru⟩ := hrd _ _ hr
        have hsrc := SrcOk.ofRdB hru
        rw [hcur] at hsrc
        clear hcr hr hrd hne hcur hrow
        have hz1 : (0 : Int) < (vs.length : Int) := by omega
        have hz2 : ((vs.length : Int) - 1) = ((vs.length - 1 : Nat) : Int) := by omega
        have hz3 : vs.length - 1 < vs.length := by omega
        generalize vs.length = vl at *
        obtain ⟨vk, rfl⟩ : ∃ vk, vl = vk + 1 := ⟨vl - 1, by omega⟩
        simp only [Nat.add_sub_cancel] at *
        go_wp2_with (first
          | (at_builtin; refine wpList_append_sl rfl (.tmp 33) (.tmp 39) rfl elem_byte rfl hK rfl hsrc (bvs_one _) e2 e3 ?_; intro v9 w9 h9 _))
        go_roundw
        case rel => exact ⟨j + 1, i + 1, by omega, by have := Hi.out; omega, by go_num, by rw [Hsn.out]; exact SlB.app (Sl.ofK h9)⟩
        case measure => have := Hi.out; simp [intOf]; omega
    · obtain rfl : j = n := by omega
      have hiz : ¬ (i : Int) < (p : Int) + (j : Int) := by omega
      clear hlen hi
      go_wp2
      go_ret2
      exact Ret.mk ⟨_, rfl, hs⟩
end
end Go.Proofs.Ytjjiljijcigekaa
