/- A group's find: what it tells. No condition beside the sizes that it names. -/
import Derived.Test.YtjjnadlklfegcaaWalGrp
namespace Go.Proofs.Ytjjnadlklfegcaa
set_option linter.unusedVariables false
set_option linter.unusedSimpArgs false
open Go.RowKit

section
variable {w : World} {L : List HP} {pb off T m : Nat} {cs : Array Value} {lv : Value} {es : IM} {ps : List Pt}
set_option maxHeartbeats 1000000 in
theorem gfind_ok {b : Int} (h : SatL w (cl pb T cs :: PutsR lv ps :: MapI m es :: L)) (c0 : cs[off]? = some lv) (c1 : cs[off + 1]? = some (.map (some m))) (G : Grp es (ps.map (·.b))) (hd : ∀ p ∈ ps, p.d.length ≤ 1000000) :
    Calls Try.prog 59 #[.pointer (some ⟨pb, off, none⟩), .int .i64 b] w
      (Ret fun r w' => ∃ v, r = .tuple #[v, .bool (gfind (pds ps) b).isSome] ∧ SatL w' (SlB 5 v ((gfind (pds ps) b).getD []) :: cl pb T cs :: PutsR lv ps :: MapI m es :: L)) := by
  have d0 := h.cell c0
  have d1 := h.cell c1
  obtain ⟨a, c, rfl, q1, q2⟩ := (PutsR.rdpts (SatL.pull h 1 : SatL w (PutsR _ _ :: _))).1.valn
  have hr := run_lookup_ok_sl key_int (SatL.pull h 2 : SatL w (MapI m es :: _)) b
  rw [G.2] at hr
  have ek : (pds ps).map (·.1) = ps.map (·.b) := by simp
  cases hp : plc (ps.map (·.b)) b with
  | none =>
    rw [hp] at hr
    have e : gfind (pds ps) b = none := by unfold gfind; rw [ek, hp]
    have E := hid e
    clear e hp G hd
    go_enter Try.func59, Try.ntmps59
    go_wp2
    go_ret2
    rw [E.out]
    exact Ret.mk ⟨_, rfl, Sl_nil h⟩
  | some i =>
    rw [hp] at hr
    have hi : i < ps.length := by have := plc_lt hp; rwa [List.length_map] at this
    have hpi : ps[i]? = some ps[i] := List.getElem?_eq_getElem hi
    have e : gfind (pds ps) b = some ps[i].d := by unfold gfind; rw [ek, hp]; simp only; rw [pds_get hpi]; rfl
    have E := hid e
    obtain ⟨ab, ao, rfl, _⟩ := (PutsR.rdpts (SatL.pull h 1 : SatL w (PutsR _ _ :: _))).1.at (by omega)
    obtain ⟨k1, k2⟩ := PutsR.cell2 (SatL.pull h 1 : SatL w (PutsR _ _ :: _)) hpi
    obtain ⟨va, vc, hv, i1, i2⟩ := PutsR.ptsl (SatL.pull h 1 : SatL w (PutsR _ _ :: _)) _ (List.getElem_mem hi)
    have hcl := clone_rd h (fun w' h' => PutsR.rdb (SatL.pull h' 1 : SatL w' (PutsR _ _ :: _)) (List.getElem_mem hi)) (by have := hd _ (List.getElem_mem hi); omega)
    rw [hv] at hcl k2
    have hiz : (i : Int) < ps.length := by omega
    clear e hp G hd hv hpi
    go_enter Try.func59, Try.ntmps59
    go_wp2_with (go_at_call 47; (with_reducible refine hcl.mono ?_); rintro e w2 ⟨v2, rfl, hs2⟩)
    go_ret2
    rw [E.out]
    exact Ret.mk ⟨_, rfl, hs2⟩
theorem run_lookup_nil (b : Int) (w : World) : (Instr.lookup 113 (.map none) (.int .i64 b) true).run Try.prog w = .ok (.tuple #[.int .i64 0, .bool false]) w := by
  obtain ⟨kt, hu, hkt⟩ := key_int.under
  obtain ⟨i, hi, hz⟩ := key_int.zero
  have hc := run_checkKey_int (P := Try.prog) hkt
  obtain ⟨j, hf, _⟩ := run_findKey_int (P := Try.prog) (es := []) hkt #[] b rfl w
  simp [mget_nil] at hf
  simp [Instr.lookup, run_underlying hu, Sem.run, hc, hf, zeroValue, typeInfo, hi, hz]
/-- of no group nothing is told -/
theorem gfind_no {b : Int} (h : SatL w (cl pb T cs :: L)) (c1 : cs[off + 1]? = some (.map none)) :
    Calls Try.prog 59 #[.pointer (some ⟨pb, off, none⟩), .int .i64 b] w (Ret fun r w' => r = .tuple #[.slice none 0 0, .bool false] ∧ SatL w' (cl pb T cs :: L)) := by
  have d1 := h.cell c1
  have hr := run_lookup_nil b
  go_enter Try.func59, Try.ntmps59
  go_wp2
  go_ret2
  exact Ret.mk ⟨rfl, h⟩
end
end Go.Proofs.Ytjjnadlklfegcaa
