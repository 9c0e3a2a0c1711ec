/- Blocks join a log. No condition beside the sizes that it names. -/
import Derived.Test.YtjjnadlklfegcaaWalLogs
namespace Go.Proofs.Ytjjnadlklfegcaa
set_option linter.unusedVariables false
set_option linter.unusedSimpArgs false
open Go.RowKit

/-- what is wrong with the first block that may not be put -/
def joinE : List PD → Int
  | [] => 0
  | p :: l => if soundE p ≠ 0 then soundE p else joinE l
theorem joinE_all : ∀ {l : List PD}, joinE l = 0 → ∀ p ∈ l, soundE p = 0
  | [], _, p, hp => absurd hp (by simp)
  | q :: l, h, p, hp => by
    unfold joinE at h
    split at h
    · rename_i h2; exact absurd h h2
    · rename_i h2
      rcases List.mem_cons.1 hp with rfl | hp
      · simpa using h2
      · exact joinE_all h p hp
theorem joinE_drop {l : List PD} {j : Nat} {q : PD} (h : l[j]? = some q) : joinE (l.drop j) = if soundE q ≠ 0 then soundE q else joinE (l.drop (j + 1)) := by
  obtain ⟨hj, hq⟩ := List.getElem?_eq_some_iff.1 h
  rw [List.drop_eq_getElem_cons hj, hq]; rfl
def LogS.join (s : LogS) (ls : List PD) : Int × Int × LogS :=
  if joinE ls ≠ 0 then (0, joinE ls, s) else if 64 < (gputs s.L ls).length then (0, 7, s) else (s.number, 0, { s with L := gputs s.L ls })
theorem logCells_set (lv lv' : Value) (m : Nat) (nv mv rv : Value) (s : LogS) : (logCells lv m nv mv rv s).setIfInBounds 0 lv' = logCells lv' m nv mv rv s := rfl

section
variable {w : World} {L : List HP} {pb : Nat} {s : LogS} {v : Value} {ls : List Pt}
set_option maxRecDepth 100000 in
set_option maxHeartbeats 4000000 in
theorem join_ok (h : SatL w (LogR pb s :: L)) (g : Gives L (RdPD v ls)) (hl : ls.length ≤ 1000000) (hd : ∀ p ∈ ls, p.d.length ≤ 1000000) :
    Calls Try.prog 23 #[.pointer (some ⟨pb, 0, none⟩), v] w (Ret fun r w' => r = .tuple #[.int .i64 (s.join (pds ls)).1, .int .i64 (s.join (pds ls)).2.1] ∧ SatL w' (LogR pb (s.join (pds ls)).2.2 :: L)) := by
  obtain ⟨a, c, rfl, q1, q2⟩ := (g w h.tail).1.1.valn
  go_enter Try.func23, Try.ntmps23
  go_wp2
  go_loopw [13] (fun i wr => ∃ j : Nat, j ≤ ls.length ∧ i = .int .i64 j ∧ joinE (pds ls) = joinE ((pds ls).drop j) ∧ SatL wr (LogR pb s :: L)) (fun i _ => ls.length - (intOf i).toNat)
  case atStart => exact ⟨0, by omega, rfl, rfl, h⟩
  case round =>
    clear h
    obtain ⟨j, hj, rfl, hE, hs⟩ := hrel
    by_cases hlt : j < ls.length
    · have hp : ls[j]? = some ls[j] := List.getElem?_eq_getElem hlt
      have gl := (g wr hs.tail).1
      obtain ⟨b, bo, rfl, _⟩ := gl.1.at (by omega)
      obtain ⟨k1, k2⟩ := RdPts.cell2 gl hp
      obtain ⟨va, vc, hv, i1, i2⟩ := gl.2 _ (List.getElem_mem hlt)
      rw [hv] at k2
      rw [joinE_drop (pds_get hp)] at hE
      have hs2 := hs.alloc (.cells #[.int .i64 ls[j].b, .slice va ls[j].d.length vc] 29)
      have hso := sound_ok (b := ls[j].b) (a := va) (c := vc) (d := ls[j].d) rfl (by have := hd _ (List.getElem_mem hlt); omega) hs2
      have hk1 : (j : Int) < ls.length := by omega
      generalize ls[j].b = qb at *
      generalize ls[j].d = qd at *
      have HE := hid hE
      clear hp hv gl hE
      by_cases h0 : soundE (qb, qd) = 0
      · have HE2 : Hid (joinE (pds ls) = joinE ((pds ls).drop (j + 1))) := hid (by rw [HE.out, if_neg (by simpa using h0)])
        rw [h0] at hso
        clear h0 HE
        go_wp2_with (go_at_call 42; (with_reducible refine hso.mono ?_); rintro e w2 ⟨r, rfl, rfl, h2⟩)
        go_roundw
        case rel => exact ⟨j + 1, by omega, by go_num, HE2.out, h2.tail⟩
        case measure => simp [intOf]; omega
      · have HE2 : Hid (joinE (pds ls) = soundE (qb, qd)) := hid (by rw [HE.out, if_pos (by simpa using h0)])
        have h1 : (soundE (qb, qd) != 0) = true := by simpa using h0
        have HJ : Hid (s.join (pds ls) = (0, soundE (qb, qd), s)) := hid (by unfold LogS.join; rw [if_pos (by rw [HE2.out]; exact h0), HE2.out])
        generalize soundE (qb, qd) = e9 at *
        clear h0 HE HE2
        go_wp2_with (go_at_call 42; (with_reducible refine hso.mono ?_); rintro e w2 ⟨r, rfl, rfl, h2⟩)
        go_ret2
        exact Ret.mk ⟨by rw [HJ.out]; rfl, by rw [HJ.out]; exact h2.tail⟩
    · obtain rfl : j = ls.length := by omega
      have e9 : (pds ls).drop ls.length = [] := List.drop_of_length_le (by rw [pds_len]; omega)
      rw [e9] at hE
      have hE0 : joinE (pds ls) = 0 := hE
      obtain ⟨lv, m, nv, mv, rv, hf, h1⟩ := sat_LogR.1 hs
      obtain ⟨ps, hps, h2⟩ := sat_PutsL.1 (SatL.pull h1 1 : SatL wr (PutsL _ _ :: _))
      obtain ⟨es, hG, h3⟩ := sat_GrpOf.1 (SatL.pull h2 2 : SatL wr (GrpOf _ _ :: _))
      have ek : s.L.map (·.1) = ps.map (·.b) := by rw [← hps]; simp
      rw [ek] at hG
      have hpl : ps.length ≤ 1000000 := by
        have h5 := congrArg List.length hps
        rw [List.length_map] at h5
        have := hf.1.1
        omega
      have h4 : SatL wr (cl pb 121 (logCells lv m nv mv rv s) :: PutsR lv ps :: MapI m es :: PutsL nv s.N :: GrpN mv (s.N.map (·.1)) :: ReqsL rv s.R :: L) := h3.bring [2, 1, 0]
      have gg : Gives (PutsL nv s.N :: GrpN mv (s.N.map (·.1)) :: ReqsL rv s.R :: L) (RdPD (.slice a ls.length c) ls) := fun w' h' => g w' (SatL.tail (SatL.tail (SatL.tail h')))
      have hmo := more_ok h4 (off := 0) rfl rfl hG (fun w' h' => (gg w' h').1) hl hpl
      have hback : ∀ (w' : World) (lv' : Value) (ps' : List Pt) (es' : IM), pds ps' = gputs (pds ps) (pds ls) → (gputs (pds ps) (pds ls)).length ≤ 64 → Grp es' (ps'.map (·.b)) → SatL w' (cl pb 121 (logCells lv' m nv mv rv s) :: PutsR lv' ps' :: MapI m es' :: PutsL nv s.N :: GrpN mv (s.N.map (·.1)) :: ReqsL rv s.R :: L) →
          SatL w' (LogR pb { s with L := gputs s.L (pds ls) } :: L) := by
        intro w' lv' ps' es' hp' hle hG' h'
        have e1 : s.L = pds ps := hps.symm
        refine sat_LogR.2 ⟨lv', m, nv, mv, rv, ⟨⟨by simp only [e1]; exact hle, gputs_all _ hf.1.2 (joinE_all hE0)⟩, hf.2⟩, ?_⟩
        have h7 := sat_PutsL.2 ⟨ps', (by rw [e1]; exact hp' : ps'.map (fun p => (p.b, p.d)) = gputs s.L (pds ls)), (SatL.pull h' 1 : SatL w' (PutsR _ _ :: _))⟩
        have ek' : (gputs s.L (pds ls)).map (·.1) = ps'.map (·.b) := by rw [e1, ← hp']; simp
        have h8 := sat_GrpOf.2 ⟨es', (by rw [ek']; exact hG' : Grp es' ((gputs s.L (pds ls)).map (·.1))), (SatL.pull h7 2 : SatL w' (MapI _ _ :: _))⟩
        exact h8.bring [2, 1, 0]
      have hsm : ∀ (w' : World), SatL w' (cl pb 121 (logCells lv m nv mv rv s) :: PutsR lv ps :: MapI m es :: PutsL nv s.N :: GrpN mv (s.N.map (·.1)) :: ReqsL rv s.R :: L) → SatL w' (LogR pb s :: L) := by
        intro w' h'
        refine sat_LogR.2 ⟨lv, m, nv, mv, rv, hf, ?_⟩
        have h7 := sat_PutsL.2 ⟨ps, hps, (SatL.pull h' 1 : SatL w' (PutsR _ _ :: _))⟩
        have h8 := sat_GrpOf.2 ⟨es, (by rw [ek]; exact hG : Grp es (s.L.map (·.1))), (SatL.pull h7 2 : SatL w' (MapI _ _ :: _))⟩
        exact h8.bring [2, 1, 0]
      have hle := gputs_le (pds ps) (pds ls)
      rw [pds_len, pds_len] at hle
      have eL : gputs s.L (pds ls) = gputs (pds ps) (pds ls) := congrArg (fun z => gputs z (pds ls)) hps.symm
      clear hs h1 h2 h3 ek e9
      by_cases hfull : 64 < (gputs (pds ps) (pds ls)).length
      · have HJ : Hid (s.join (pds ls) = (0, 7, s)) := hid (by unfold LogS.join; rw [if_neg (by rw [hE0]; simp), eL, if_pos hfull])
        have hb : (64 : Int) < ((gputs (pds ps) (pds ls)).length : Nat) := by omega
        have Hsm := hid hsm
        generalize (gputs (pds ps) (pds ls)).length = gn at *
        clear hE hE0 hps hf hG hback hsm eL hfull
        go_wp2_with (go_at_call 56; (with_reducible refine hmo.mono ?_); rintro e w2 ⟨r, rfl, rfl, h5⟩)
        go_ret2
        exact Ret.mk ⟨by rw [HJ.out]; rfl, by rw [HJ.out]; exact Hsm.out _ h5⟩
      · have HJ : Hid (s.join (pds ls) = ((s.number : Int), (0 : Int), { s with L := gputs s.L (pds ls) })) := hid (by unfold LogS.join; rw [if_neg (by rw [hE0]; simp), eL, if_neg hfull])
        have hb : ¬ (64 : Int) < ((gputs (pds ps) (pds ls)).length : Nat) := by omega
        have HB := hid fun (w' : World) lv' ps' es' h1 h2 h3 => hback w' lv' ps' es' h1 (by omega) h2 h3
        have Htl := hid fun j => gputs_take_le (pds ps) (pds ls) j
        have hfl : (gputs (pds ps) (pds ls)).length ≤ 64 := by omega
        have Hfl := hid hfl
        generalize hgn : (gputs (pds ps) (pds ls)).length = gn at hmo hb
        have HG := hid hG
        clear hE hE0 hps hf hG hback hsm eL hfull hgn hle hfl
        go_upto_region 11 with (go_at_call 56; (with_reducible refine hmo.mono ?_); rintro e w2 ⟨r, rfl, rfl, h5⟩)
        have h6 : ∃ (j : Nat) (lv' : Value) (ps' : List Pt) (es' : IM), j ≤ ls.length ∧ (.int .i64 0 : Value) = .int .i64 j ∧ pds ps' = gputs (pds ps) ((pds ls).take j) ∧ Grp es' (ps'.map (·.b)) ∧ SatL w2 (cl pb 121 (logCells lv' m nv mv rv s) :: PutsR lv' ps' :: MapI m es' :: PutsL nv s.N :: GrpN mv (s.N.map (·.1)) :: ReqsL rv s.R :: L) :=
          ⟨0, lv, ps, es, by omega, rfl, rfl, HG.out, h5⟩
        clear h5 h4 hmo hb
        go_loopw [32] (fun i wr => ∃ (j : Nat) (lv' : Value) (ps' : List Pt) (es' : IM), j ≤ ls.length ∧ i = .int .i64 j ∧ pds ps' = gputs (pds ps) ((pds ls).take j) ∧ Grp es' (ps'.map (·.b)) ∧ SatL wr (cl pb 121 (logCells lv' m nv mv rv s) :: PutsR lv' ps' :: MapI m es' :: PutsL nv s.N :: GrpN mv (s.N.map (·.1)) :: ReqsL rv s.R :: L)) (fun i _ => ls.length - (intOf i).toNat)
        case atStart => exact h6
        case round =>
          clear h6
          obtain ⟨j, lv', ps', es', hj, rfl, hp', hG', hs⟩ := hrel
          by_cases hlt : j < ls.length
          · have hp : ls[j]? = some ls[j] := List.getElem?_eq_getElem hlt
            have gl := (g wr (SatL.tail (SatL.tail (SatL.tail (SatL.tail (SatL.tail (SatL.tail hs))))))).1
            obtain ⟨b, bo, rfl, _⟩ := gl.1.at (by omega)
            obtain ⟨k1, k2⟩ := RdPts.cell2 gl hp
            obtain ⟨va, vc, hv, i1, i2⟩ := gl.2 _ (List.getElem_mem hlt)
            have hdl := hd _ (List.getElem_mem hlt)
            have hrb := fun (w' : World) (h' : SatL w' (PutsL nv s.N :: GrpN mv (s.N.map (·.1)) :: ReqsL rv s.R :: L)) => (gg w' h').2 _ (List.getElem_mem hlt)
            rw [hv] at k2 hrb
            have hpl' : ps'.length ≤ 1000000 := by
              have h7 := congrArg List.length hp'
              rw [List.length_map] at h7
              have h8 := Htl.out j
              have h9 := Hfl.out
              omega
            have hnx : gput (pds ps') (ls[j].b, ls[j].d) = gputs (pds ps) ((pds ls).take (j + 1)) := by
              rw [List.take_add_one, pds_get hp, hp']
              exact (gputs_snoc _ _ _).symm
            have Hnx := hid hnx
            have hs2 := sat_drew.2 (hs.alloc (.cells #[.int .i64 ls[j].b, .slice va ls[j].d.length vc] 29))
            generalize ls[j].b = qb at *
            generalize ls[j].d = qd at *
            have e1 : (wr.alloc (.cells #[.int .i64 qb, .slice va qd.length vc] 29)).drew.cell? ⟨wr.heap.size, 0, none⟩ = some (.int .i64 qb) := SatL.cell (hs2 : SatL _ (cl _ _ _ :: _)) rfl
            have e2 : (wr.alloc (.cells #[.int .i64 qb, .slice va qd.length vc] 29)).drew.cell? ⟨wr.heap.size, 1, none⟩ = some (.slice va qd.length vc) := SatL.cell (hs2 : SatL _ (cl _ _ _ :: _)) rfl
            have hpu := gput_ok (b := qb) (d := qd) (hs2.bring [1, 2, 3]) rfl rfl hG' (fun w' h' => hrb w' h'.tail) hdl hpl'
            have hk1 : (j : Int) < ls.length := by omega
            clear hp hv gl hp' hnx hG' hs
            go_wp2
            go_region_law (first
              | (go_simp; go_at_call 57; (with_reducible refine hpu.mono ?_); rintro e w3 ⟨r, rfl, lv2, ps2, es2, hp2, hG2, h7⟩)
              | fail "no")
            all_goals
              go_wp2
              go_roundw
              case rel => exact ⟨j + 1, lv2, ps2, es2, by omega, by go_num, by rw [hp2]; exact Hnx.out, hG2, SatL.tail (SatL.bring h7 [3, 0, 1, 2])⟩
              case measure => simp [intOf]; omega
          · obtain rfl : j = ls.length := by omega
            have e9 : (pds ls).take ls.length = pds ls := List.take_of_length_le (by rw [pds_len]; omega)
            rw [e9] at hp'
            have c10 : wr.cell? ⟨pb, 10, none⟩ = some (.int .i64 s.number) := SatL.cell hs (i := 10) rfl
            have h9 := HB.out _ _ _ _ hp' hG' hs
            clear hs hp' hG' e9
            go_wp2
            go_ret2
            exact Ret.mk ⟨by rw [HJ.out]; rfl, by rw [HJ.out]; exact h9⟩
end
end Go.Proofs.Ytjjnadlklfegcaa
