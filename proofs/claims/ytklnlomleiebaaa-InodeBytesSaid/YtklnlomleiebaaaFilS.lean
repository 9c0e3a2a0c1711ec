/- A volume with what stands in it: which blocks, which inodes are taken, the bytes of the blocks behind the bitmaps. No condition. -/
import Derived.Test.YtklnlomleiebaaaVolE
namespace Go.Proofs.Ytklnlomleiebaaa
set_option linter.unusedVariables false
set_option linter.unusedSimpArgs false
open Go.RowKit
structure Vs where
  U : Nat → Bool
  V : Nat → Bool
  D : Nat → List UInt8
def Vs.take (s : Vs) (u : Nat) : Vs := { s with U := fun j => s.U j || j == u }
def Vs.give (s : Vs) (u : Nat) : Vs := { s with U := fun j => s.U j && !(j == u) }
def Vs.takeI (s : Vs) (u : Nat) : Vs := { s with V := fun j => s.V j || j == u }
def Vs.giveI (s : Vs) (u : Nat) : Vs := { s with V := fun j => s.V j && !(j == u) }
def Vs.put (s : Vs) (k : Nat) (d : List UInt8) : Vs := { s with D := fun t => if t = k then d else s.D t }
def filP (b i : Nat) (s : Vs) (rows : List (Option (List UInt8))) (puts : Puts) : Prop :=
  (planGood b i ∧ planErr b i = 0) ∧ (rows.length = b ∧ Rows512 rows) ∧ Puts512 puts ∧ (∀ k, k < tableN b - 69 → viewAt rows puts (69 + k) = bitsN 512 (fun j => s.U (k * 4096 + j))) ∧ viewAt rows puts 68 = bitsN 512 s.V ∧ ∀ k, tableN b ≤ k → k < b → viewAt rows puts k = s.D k
/-- a volume of b blocks and i inodes: the state s -/
def FilR (vb b i : Nat) (s : Vs) : HP := ex fun q : Puts × Nat × List (Option (List UInt8)) => sep [pur (filP b i s q.2.2 q.1), ViewR vb q.2.1 i (tableN b) (dataN b i) q.2.2 q.1]
theorem filP.upB {b i u : Nat} {s s' : Vs} {P : Nat → Bool} {rows : List (Option (List UInt8))} {puts : Puts} (h : filP b i s rows puts) (hu : u / 4096 < tableN b - 69) (hV : s'.V = s.V) (hD : s'.D = s.D) (hP : ∀ t, t < 4096 → P t = s'.U (u / 4096 * 4096 + t)) (hU : ∀ j, j / 4096 ≠ u / 4096 → s'.U j = s.U j) :
    filP b i s' rows (upo puts ((69 + u / 4096 : Nat) : Int) (bitsN 512 P)) := by
  obtain ⟨h0, h1, h2, h3, h4, h5⟩ := h
  refine ⟨h0, h1, h2.upo (bitsN_len _), fun k hk => ?_, ?_, fun k hk hkb => ?_⟩
  · rw [viewAt_put]
    by_cases hu : k = u / 4096
    · subst hu
      rw [if_pos rfl]
      exact bitsN_congr fun t ht => hP t (by omega)
    · rw [if_neg (by omega), h3 k hk]
      exact bitsN_congr fun t ht => (hU _ (by omega)).symm
  · rw [viewAt_put, if_neg (by omega), h4, hV]
  · rw [viewAt_put, if_neg (by omega), h5 k hk hkb, hD]
theorem filP.upI {b i : Nat} {s s' : Vs} {P : Nat → Bool} {rows : List (Option (List UInt8))} {puts : Puts} (h : filP b i s rows puts) (hU : s'.U = s.U) (hD : s'.D = s.D) (hP : ∀ t, t < 4096 → P t = s'.V t) :
    filP b i s' rows (upo puts ((68 : Nat) : Int) (bitsN 512 P)) := by
  obtain ⟨h0, h1, h2, h3, h4, h5⟩ := h
  have hn := (VolR.nat h0.1 h0.2).1
  refine ⟨h0, h1, h2.upo (bitsN_len _), fun k hk => ?_, ?_, fun k hk hkb => ?_⟩
  · rw [viewAt_put, if_neg (by omega), h3 k hk, hU]
  · rw [viewAt_put, if_pos rfl]
    exact bitsN_congr fun t ht => hP t (by omega)
  · rw [viewAt_put, if_neg (by omega), h5 k hk hkb, hD]
theorem filP.upD {b i k : Nat} {s : Vs} {d : List UInt8} {rows : List (Option (List UInt8))} {puts : Puts} (h : filP b i s rows puts) (hk : tableN b ≤ k) (hd : d.length = 512) :
    filP b i (s.put k d) rows (upo puts (k : Int) d) := by
  obtain ⟨h0, h1, h2, h3, h4, h5⟩ := h
  have hn := (VolR.nat h0.1 h0.2).1
  refine ⟨h0, h1, h2.upo hd, fun j hj => ?_, ?_, fun j hj hjb => ?_⟩
  · rw [viewAt_put, if_neg (by omega), h3 j hj]; rfl
  · rw [viewAt_put, if_neg (by omega), h4]; rfl
  · rw [viewAt_put]
    show _ = if j = k then d else s.D j
    by_cases e : j = k
    · rw [if_pos e, if_pos e]
    · rw [if_neg e, if_neg e, h5 j hj hjb]
section
variable {w : World} {L : List HP} {vb b i : Nat} {s : Vs}
theorem sat_FilR : SatL w (FilR vb b i s :: L) ↔ ∃ puts mb rows, filP b i s rows puts ∧ SatL w (ViewR vb mb i (tableN b) (dataN b i) rows puts :: L) := by
  unfold FilR
  rw [sat_ex]
  constructor
  · rintro ⟨⟨puts, mb, rows⟩, h⟩; obtain ⟨h1, h2⟩ := sat_pur.1 (sat_sep.1 h); exact ⟨puts, mb, rows, h1, h2⟩
  · rintro ⟨puts, mb, rows, h1, h2⟩; exact ⟨(puts, mb, rows), sat_sep.2 (sat_pur.2 ⟨h1, h2⟩)⟩
theorem FilR.good (h : SatL w (FilR vb b i s :: L)) : planGood b i ∧ planErr b i = 0 := by
  obtain ⟨_, _, _, hP, _⟩ := sat_FilR.1 h
  exact hP.1
theorem FilR.nat (h : SatL w (FilR vb b i s :: L)) : 69 ≤ tableN b ∧ tableN b ≤ dataN b i ∧ dataN b i + 8 ≤ b ∧ b ≤ (tableN b - 69) * 4096 ∧ b ≤ 65536 ∧ i ≤ 4096 := VolR.nat (FilR.good h).1 (FilR.good h).2
theorem FilR.len (h : SatL w (FilR vb b i s :: L)) {k : Nat} (hk : tableN b ≤ k) (hkb : k < b) : (s.D k).length = 512 := by
  obtain ⟨_, _, _, hP, _⟩ := sat_FilR.1 h
  rw [← hP.2.2.2.2.2 k hk hkb]
  exact viewAt_len hP.2.1.2 hP.2.2.1 k
theorem fil_get {k : Nat} (h : SatL w (FilR vb b i s :: L)) (hk : tableN b ≤ k) (hkb : k < b) :
    Calls Try.prog 16 #[.pointer (some ⟨vb, 0, none⟩), .int .i64 k] w (Ret fun v w' => ∃ dv, v = .tuple #[dv, .nilIface] ∧ SatL w' (SlB 5 dv (s.D k) :: FilR vb b i s :: L)) := by
  obtain ⟨n1, n2, n3, n4, n5, n6⟩ := FilR.nat h
  obtain ⟨puts, mb, rows, hP, hs⟩ := sat_FilR.1 h
  refine (get_ok hs (by rw [hP.2.1.1]; exact hkb) hP.2.1.2 hP.2.2.1 (by rw [hP.2.1.1]; omega)).mono ?_
  rintro e w' ⟨v, rfl, dv, rfl, h1⟩
  rw [hP.2.2.2.2.2 k hk hkb] at h1
  exact ⟨_, rfl, dv, rfl, (sat_FilR.2 ⟨_, _, _, hP, h1.swap⟩).swap⟩
theorem fil_put {k : Nat} {dv : Value} {d : List UInt8} (h : SatL w (SlB 5 dv d :: FilR vb b i s :: L)) (hk : tableN b ≤ k) (hkb : k < b) (hd : d.length = 512) :
    Calls Try.prog 20 #[.pointer (some ⟨vb, 0, none⟩), .int .i64 k, dv] w (Ret fun v w' => v = .nilIface ∧ SatL w' (FilR vb b i (s.put k d) :: SlB 5 dv d :: L)) := by
  obtain ⟨puts, mb, rows, hP, hs⟩ := sat_FilR.1 h.swap
  refine (put_ok hs.swap (by rw [hP.2.1.1]; exact hkb) hd).mono ?_
  rintro e w' ⟨v, rfl, rfl, h1⟩
  exact ⟨_, rfl, rfl, sat_FilR.2 ⟨_, _, _, hP.upD hk hd, h1⟩⟩
theorem fil_take {u : Nat} (h : SatL w (FilR vb b i s :: L)) (hu : u < (tableN b - 69) * 4096) (hU : s.U u = false) (hmin : ∀ j, j < u → s.U j = true) :
    Calls Try.prog 33 #[.pointer (some ⟨vb, 0, none⟩)] w (Ret fun v w' => v = .tuple #[.int .i64 u, .nilIface] ∧ SatL w' (FilR vb b i (s.take u) :: L)) := by
  obtain ⟨n1, n2, n3, n4, n5, n6⟩ := FilR.nat h
  obtain ⟨puts, mb, rows, hP, hs⟩ := sat_FilR.1 h
  refine (takeBlock_ok hs n1 (by rw [hP.2.1.1]; omega) hP.2.1.2 hP.2.2.1 (by rw [hP.2.1.1]; omega) hP.2.2.2.1 hu hU hmin).mono ?_
  rintro e w1 ⟨v, rfl, rfl, hs1⟩
  refine ⟨_, rfl, rfl, sat_FilR.2 ⟨_, _, _, hP.upB (u := u) (s' := s.take u) (by omega) rfl rfl ?_ ?_, hs1⟩⟩
  · intro t ht
    have : (t == u % 4096) = (u / 4096 * 4096 + t == u) := by rw [Bool.eq_iff_iff]; simp; omega
    show (s.U _ || _) = (s.U _ || _)
    rw [this]
  · intro j hj
    have : (j == u) = false := by simp; intro e; exact hj (by rw [e])
    show (s.U _ || _) = _
    simp [this]
set_option maxRecDepth 100000 in
set_option maxHeartbeats 1000000 in
theorem fil_full (h : SatL w (FilR vb b i s :: L)) (hU : ∀ j, j < (tableN b - 69) * 4096 → s.U j = true) :
    Calls Try.prog 33 #[.pointer (some ⟨vb, 0, none⟩)] w (Ret fun v w' => v = .tuple #[.int .i64 0, errno 7] ∧ SatL w' (FilR vb b i s :: L)) := by
  obtain ⟨n1, n2, n3, n4, n5, n6⟩ := FilR.nat h
  obtain ⟨puts, mb, rows, hP, hs⟩ := sat_FilR.1 h
  have htk := take_full (fr := 69) (n := tableN b - 69) (U := s.U) (sat_drew.2 hs) (by rw [hP.2.1.1]; omega) hP.2.1.2 hP.2.2.1 (by rw [hP.2.1.1]; omega) hP.2.2.2.1 hU
  obtain ⟨_, _, _, c6, c7, _⟩ := view_cells (sat_drew.2 hs)
  have e1 : IntKind.i64.wrap ((tableN b : Int) - 69) = ((tableN b - 69 : Nat) : Int) := by rw [IntWalk.i64_in _ (by omega)]; omega
  rw [← e1, show ((69 : Nat) : Int) = 69 from rfl] at htk
  have hP' := hid hP
  clear hs h hP e1 hU
  generalize hT : tableN b = tb at *
  have HT := hid hT
  clear hT
  go_enter Try.func33, Try.ntmps33
  go_wp2
  go_region_held3 (fun w' => w'.cell? ⟨vb, 6, none⟩ = some (.int .i64 69) ∧ w'.cell? ⟨vb, 7, none⟩ = some (.int .i64 tb))
    (first | exact ⟨c6, c7⟩ | exact ⟨m6, m7⟩ | go_keep)
    (first
      | (go_at_call 45; (with_reducible refine htk.mono ?_); rintro e w2 ⟨v, rfl, rfl, hs1⟩; obtain ⟨_, _, _, m6, m7, _⟩ := view_cells hs1))
  go_wp2
  go_ret2
  obtain rfl := HT.out
  exact Ret.mk ⟨rfl, sat_FilR.2 ⟨_, _, _, hP'.out, hs1⟩⟩
/-- what stands in a new volume -/
def mkVs (b i : Nat) : Vs := ⟨usedP b (dataN b i), imP i, viewAt (mkRows b i 0 0) (fun _ => none)⟩
theorem fil_fresh (hg : planGood b i) (he : planErr b i = 0) (h : SatL w L) :
    Calls Try.prog 8 #[.int .i64 b, .int .i64 i] w (Ret fun v w' => ∃ vb, v = .pointer (some ⟨vb, 0, none⟩) ∧ SatL w' (FilR vb b i (mkVs b i) :: L)) := by
  refine (fresh_ok hg he h).mono ?_
  rintro e w1 ⟨v, rfl, vb, mb, rfl, hs⟩
  exact ⟨_, rfl, vb, rfl, sat_FilR.2 ⟨_, _, _, ⟨⟨hg, he⟩, ⟨mkRows_len, mkRows_512⟩, (fun k d h => by cases h), fun k hk => viewAt_bm hg he k hk, viewAt_im hg he, fun k _ _ => rfl⟩, hs⟩⟩
end
end Go.Proofs.Ytklnlomleiebaaa
