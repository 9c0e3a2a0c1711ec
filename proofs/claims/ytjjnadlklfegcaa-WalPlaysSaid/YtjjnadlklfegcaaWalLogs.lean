/- Logs as what is owned: what they hold, and their plain calls. No condition beside the sizes that it names. -/
import Derived.Test.YtjjnadlklfegcaaWalGrpF
import Derived.Test.YtjjnadlklfegcaaWalGrpM
import Derived.Test.YtjjnadlklfegcaaWalGrpP
namespace Go.Proofs.Ytjjnadlklfegcaa
set_option linter.unusedVariables false
set_option linter.unusedSimpArgs false
open Go.RowKit

/-- a request: kind, block, number, bytes -/
structure Rq where
  k : Int
  b : Int
  n : Int
  d : List UInt8
structure Rp where
  k : Int
  b : Int
  n : Int
  v : Value
  d : List UInt8
def rcells (rs : List Rp) : List Value := rs.flatMap fun r => [.int .i64 r.k, .int .i64 r.b, .int .i64 r.n, r.v]
abbrev rqs (rs : List Rp) : List Rq := rs.map fun r => ⟨r.k, r.b, r.n, r.d⟩
def ReqsR (rv : Value) (rs : List Rp) : HP := sep [SlK 80 4 rv rs.length (rcells rs), big (fun r : Rp => SlB 5 r.v r.d) rs]
def ReqsL (rv : Value) (l : List Rq) : HP := ex fun rs => sep [pur (rqs rs = l), ReqsR rv rs]

structure LogS where
  L : List PD
  N : List PD
  phase : Nat
  R : List Rq
  told : Nat
  don : Nat
  start : Int
  seq : Nat
  number : Nat
  durable : Nat

def GrpOf (m : Nat) (ks : List Int) : HP := ex fun es => sep [pur (Grp es ks), MapI m es]
/-- the map of the group that is committed: nil, or its places -/
def GrpN (mv : Value) (ks : List Int) : HP := ex fun m : Option Nat => sep [pur (mv = .map m), match m with | none => pur (ks = []) | some m => GrpOf m ks]
def logCells (lv : Value) (m : Nat) (nv mv rv : Value) (s : LogS) : Array Value :=
  #[lv, .map (some m), nv, mv, .int .i64 s.phase, rv, .int .i64 s.told, .int .i64 s.don, .int .i64 s.start, .int .u64 s.seq, .int .i64 s.number, .int .i64 s.durable]
/-- blocks that may stand in a group -/
def Fit (l : List PD) : Prop := l.length ≤ 64 ∧ ∀ p ∈ l, soundE p = 0
def LogR (pb : Nat) (s : LogS) : HP := ex fun lv => ex fun m : Nat => ex fun nv => ex fun mv => ex fun rv =>
  sep [pur (Fit s.L ∧ Fit s.N), cl pb 121 (logCells lv m nv mv rv s), PutsL lv s.L, GrpOf m (s.L.map (·.1)), PutsL nv s.N, GrpN mv (s.N.map (·.1)), ReqsL rv s.R]

section
variable {w : World} {l : List HP}
theorem sat_ReqsR {rv : Value} {rs : List Rp} : SatL w (ReqsR rv rs :: l) ↔ SatL w (SlK 80 4 rv rs.length (rcells rs) :: big (fun r : Rp => SlB 5 r.v r.d) rs :: l) := sat_sep
theorem sat_ReqsL {rv : Value} {R : List Rq} : SatL w (ReqsL rv R :: l) ↔ ∃ rs, rqs rs = R ∧ SatL w (ReqsR rv rs :: l) := by
  unfold ReqsL
  rw [sat_ex]
  constructor
  · rintro ⟨rs, h⟩; rw [sat_sep] at h; simp only [List.cons_append, List.nil_append, sat_pur] at h; exact ⟨rs, h⟩
  · rintro ⟨rs, h⟩; refine ⟨rs, ?_⟩; rw [sat_sep]; simp only [List.cons_append, List.nil_append, sat_pur]; exact h
theorem sat_GrpOf {m : Nat} {ks : List Int} : SatL w (GrpOf m ks :: l) ↔ ∃ es, Grp es ks ∧ SatL w (MapI m es :: l) := by
  unfold GrpOf
  rw [sat_ex]
  constructor
  · rintro ⟨rs, h⟩; rw [sat_sep] at h; simp only [List.cons_append, List.nil_append, sat_pur] at h; exact ⟨rs, h⟩
  · rintro ⟨rs, h⟩; refine ⟨rs, ?_⟩; rw [sat_sep]; simp only [List.cons_append, List.nil_append, sat_pur]; exact h
theorem sat_GrpN {mv : Value} {ks : List Int} : SatL w (GrpN mv ks :: l) ↔ (mv = .map none ∧ ks = [] ∧ SatL w l) ∨ ∃ m, mv = .map (some m) ∧ SatL w (GrpOf m ks :: l) := by
  unfold GrpN
  rw [sat_ex]
  constructor
  · rintro ⟨m, h⟩
    rw [sat_sep] at h
    cases m with
    | none => simp only [List.cons_append, List.nil_append, sat_pur] at h; exact .inl h
    | some m => simp only [List.cons_append, List.nil_append, sat_pur] at h; exact .inr ⟨m, h⟩
  · rintro (h | ⟨m, h⟩)
    · refine ⟨none, ?_⟩; rw [sat_sep]; simp only [List.cons_append, List.nil_append, sat_pur]; exact h
    · refine ⟨some m, ?_⟩; rw [sat_sep]; simp only [List.cons_append, List.nil_append, sat_pur]; exact h
theorem sat_LogR {pb : Nat} {s : LogS} : SatL w (LogR pb s :: l) ↔ ∃ lv m nv mv rv, (Fit s.L ∧ Fit s.N) ∧ SatL w (cl pb 121 (logCells lv m nv mv rv s) :: PutsL lv s.L :: GrpOf m (s.L.map (·.1)) :: PutsL nv s.N :: GrpN mv (s.N.map (·.1)) :: ReqsL rv s.R :: l) := by
  simp only [LogR, sat_ex, sat_sep, List.cons_append, List.nil_append, sat_pur]
theorem PutsL.valn {lv : Value} {ps : List PD} (h : SatL w (PutsL lv ps :: l)) : ∃ a c, lv = .slice a ps.length c ∧ ps.length ≤ c ∧ c ≤ 9223372036854775807 := by
  obtain ⟨qs, rfl, h2⟩ := sat_PutsL.1 h
  rw [List.length_map]; exact (PutsR.rdpts h2).1.valn
theorem PutsL.nil (h : SatL w l) : SatL w (PutsL (.slice none 0 0) [] :: l) := sat_PutsL.2 ⟨[], rfl, sat_PutsR.2 (SlK_nil ((big_nil (f := fun p : Pt => SlB 5 p.v p.d)).2 h))⟩
theorem ReqsL.nil (h : SatL w l) : SatL w (ReqsL (.slice none 0 0) [] :: l) := sat_ReqsL.2 ⟨[], rfl, sat_ReqsR.2 (SlK_nil ((big_nil (f := fun r : Rp => SlB 5 r.v r.d)).2 h))⟩
theorem ReqsL.valn {rv : Value} {R : List Rq} (h : SatL w (ReqsL rv R :: l)) : ∃ a c, rv = .slice a R.length c ∧ R.length ≤ c ∧ c ≤ 9223372036854775807 := by
  obtain ⟨rs, rfl, h2⟩ := sat_ReqsL.1 h
  rw [List.length_map]; exact SlK.valn (sat_ReqsR.1 h2)
theorem Fit.nil : Fit [] := ⟨Nat.zero_le _, fun p hp => absurd hp (by simp)⟩
theorem Fit.len {L : List PD} (h : Fit L) : ∀ p ∈ L, p.2.length = 512 := by
  intro p hp
  have := h.2 p hp
  unfold soundE at this
  split at this
  · cases this
  · split at this
    · cases this
    · rename_i h2; simpa using h2

def logNew (start : Int) (seq : Nat) : LogS := ⟨[], [], 0, [], 0, 0, start, seq, 1, 0⟩
set_option maxHeartbeats 1000000 in
theorem new_ok {start : Int} {seq : Nat} (hst : 0 ≤ start) (h : SatL w l) :
    Calls Try.prog 22 #[.int .i64 start, .int .u64 seq] w (Ret fun r w' => ∃ pb, r = .tuple #[.pointer (some ⟨pb, 0, none⟩), .int .i64 0] ∧ SatL w' (LogR pb (logNew start seq) :: l)) := by
  have hmm := @run_makeMap Try.prog
  have h0 := MapI.made (h.alloc (.map #[] 0))
  have h1 := h0.allocN (n := w.heap.size + 1) (.cells #[.slice none 0 0, .map (some w.heap.size), .slice none 0 0, .map none, .int .i64 0, .slice none 0 0, .int .i64 0, .int .i64 0, .int .i64 start, .int .u64 seq, .int .i64 1, .int .i64 0] 121) (by simp)
  go_enter Try.func22, Try.ntmps22
  go_wp2
  go_ret2
  refine Ret.mk ⟨_, rfl, sat_LogR.2 ⟨.slice none 0 0, w.heap.size, .slice none 0 0, .map none, .slice none 0 0, ⟨Fit.nil, Fit.nil⟩, ?_⟩⟩
  have h2 := sat_GrpN.2 (.inl ⟨rfl, rfl, ReqsL.nil h1⟩ : _ ∨ ∃ m, (.map none : Value) = .map (some m) ∧ SatL _ (GrpOf m [] :: _))
  have h3 := sat_GrpOf.2 ⟨[], Grp.nil, (PutsL.nil h2).bring [4]⟩
  exact (PutsL.nil h3).bring [5, 0, 1, 2, 3, 4]
theorem new_no {start : Int} {seq : Nat} (hst : start < 0) (h : SatL w l) :
    Calls Try.prog 22 #[.int .i64 start, .int .u64 seq] w (Ret fun r w' => r = .tuple #[.pointer none, .int .i64 1] ∧ SatL w' l) := by
  go_enter Try.func22, Try.ntmps22
  go_wp2
  go_ret2
  exact Ret.mk ⟨rfl, h⟩

variable {pb : Nat} {s : LogS}
theorem open_ok (h : SatL w (LogR pb s :: l)) : Calls Try.prog 25 #[.pointer (some ⟨pb, 0, none⟩)] w (Ret fun r w' => r = .int .i64 s.L.length ∧ SatL w' (LogR pb s :: l)) := by
  obtain ⟨lv, m, nv, mv, rv, hf, h1⟩ := sat_LogR.1 h
  obtain ⟨a, c, rfl, q1, q2⟩ := PutsL.valn (SatL.pull h1 1 : SatL w (PutsL _ _ :: _))
  have c0 : w.cell? ⟨pb, 0, none⟩ = some (.slice a s.L.length c) := h1.cell (i := 0) rfl
  clear h1
  go_enter Try.func25, Try.ntmps25
  go_wp2
  go_ret
  exact Ret.mk ⟨rfl, h⟩
theorem phase_ok (h : SatL w (LogR pb s :: l)) : Calls Try.prog 27 #[.pointer (some ⟨pb, 0, none⟩)] w (Ret fun r w' => r = .int .i64 s.phase ∧ SatL w' (LogR pb s :: l)) := by
  obtain ⟨lv, m, nv, mv, rv, hf, h1⟩ := sat_LogR.1 h
  have c0 : w.cell? ⟨pb, 4, none⟩ = some (.int .i64 s.phase) := h1.cell (i := 4) rfl
  clear h1
  go_enter Try.func27, Try.ntmps27
  go_wp2
  go_ret
  exact Ret.mk ⟨rfl, h⟩
theorem durable_ok (h : SatL w (LogR pb s :: l)) : Calls Try.prog 31 #[.pointer (some ⟨pb, 0, none⟩)] w (Ret fun r w' => r = .int .i64 s.durable ∧ SatL w' (LogR pb s :: l)) := by
  obtain ⟨lv, m, nv, mv, rv, hf, h1⟩ := sat_LogR.1 h
  have c0 : w.cell? ⟨pb, 11, none⟩ = some (.int .i64 s.durable) := h1.cell (i := 11) rfl
  clear h1
  go_enter Try.func31, Try.ntmps31
  go_wp2
  go_ret
  exact Ret.mk ⟨rfl, h⟩
def LogS.find (s : LogS) (b : Int) : Option (List UInt8) := (gfind s.L b).or (gfind s.N b)
set_option maxHeartbeats 1000000 in
theorem find_ok {b : Int} (h : SatL w (LogR pb s :: l)) : Calls Try.prog 28 #[.pointer (some ⟨pb, 0, none⟩), .int .i64 b] w
    (Ret fun r w' => ∃ v, r = .tuple #[v, .bool (s.find b).isSome] ∧ SatL w' (SlB 5 v ((s.find b).getD []) :: LogR pb s :: l)) := by
  obtain ⟨lv, m, nv, mv, rv, hf, h1⟩ := sat_LogR.1 h
  obtain ⟨ps, hps, h2⟩ := sat_PutsL.1 (SatL.pull h1 1 : SatL w (PutsL _ _ :: _))
  obtain ⟨es, hG, h3⟩ := sat_GrpOf.1 (SatL.pull h2 2 : SatL w (GrpOf _ _ :: _))
  obtain ⟨qs, hqs, h4⟩ := sat_PutsL.1 (SatL.pull h3 3 : SatL w (PutsL _ _ :: _))
  have k1 : (s.L.map (·.1)) = ps.map (·.b) := by rw [← hps]; simp
  have k2 : (s.N.map (·.1)) = qs.map (·.b) := by rw [← hqs]; simp
  have d1 : ∀ p ∈ ps, p.d.length ≤ 1000000 := by
    intro p hp
    have := hf.1.len (p.b, p.d) (by rw [← hps]; exact List.mem_map_of_mem hp)
    simp only at this; omega
  have d2 : ∀ p ∈ qs, p.d.length ≤ 1000000 := by
    intro p hp
    have := hf.2.len (p.b, p.d) (by rw [← hqs]; exact List.mem_map_of_mem hp)
    simp only at this; omega
  rw [k1] at hG
  have h5 : SatL w (cl pb 121 (logCells lv m nv mv rv s) :: PutsR lv ps :: MapI m es :: PutsR nv qs :: GrpN mv (s.N.map (·.1)) :: ReqsL rv s.R :: l) := h4.bring [3, 2, 1, 0]
  have hfind := gfind_ok (b := b) h5 (off := 0) rfl rfl hG d1
  have hback : ∀ (w' : World) (l' : List HP), SatL w' (cl pb 121 (logCells lv m nv mv rv s) :: PutsR lv ps :: MapI m es :: PutsR nv qs :: GrpN mv (s.N.map (·.1)) :: ReqsL rv s.R :: l') → SatL w' (LogR pb s :: l') := by
    intro w' l' h6
    refine sat_LogR.2 ⟨lv, m, nv, mv, rv, hf, ?_⟩
    have h7 := sat_PutsL.2 ⟨qs, hqs, (SatL.pull h6 3 : SatL w' (PutsR _ _ :: _))⟩
    have h8 := sat_GrpOf.2 ⟨es, (by rw [k1]; exact hG : Grp es (s.L.map (·.1))), (SatL.pull h7 3 : SatL w' (MapI _ _ :: _))⟩
    have h9 := sat_PutsL.2 ⟨ps, hps, (SatL.pull h8 3 : SatL w' (PutsR _ _ :: _))⟩
    exact h9.bring [3, 0, 1, 2]
  have hsec : ∀ (w' : World) (l' : List HP), SatL w' (cl pb 121 (logCells lv m nv mv rv s) :: PutsR lv ps :: MapI m es :: PutsR nv qs :: GrpN mv (s.N.map (·.1)) :: ReqsL rv s.R :: l') →
      Calls Try.prog 59 #[.pointer (some ⟨pb, 2, none⟩), .int .i64 b] w' (Ret fun r w2 => ∃ v, r = .tuple #[v, .bool (gfind (pds qs) b).isSome] ∧ SatL w2 (SlB 5 v ((gfind (pds qs) b).getD []) :: LogR pb s :: l')) := by
    intro w' l' h6
    rcases sat_GrpN.1 (SatL.pull h6 4 : SatL w' (GrpN _ _ :: _)) with ⟨rfl, hN, h7⟩ | ⟨m2, rfl, h7⟩
    · refine (gfind_no (b := b) (off := 2) h7 rfl).mono ?_
      rintro e w2 ⟨r, rfl, rfl, h8⟩
      have hq : qs = [] := by rw [k2] at hN; exact List.map_eq_nil_iff.1 hN
      have e1 : gfind (pds qs) b = none := by rw [hq]; rfl
      rw [e1]
      have h9 : SatL w2 (GrpN (.map none) (s.N.map (·.1)) :: _) := sat_GrpN.2 (.inl ⟨rfl, hN, h8⟩)
      exact Ret.mk ⟨_, rfl, Sl_nil (hback w2 l' (h9.bring [1, 2, 3, 4, 0]))⟩
    · obtain ⟨es2, hG2, h8⟩ := sat_GrpOf.1 h7
      rw [k2] at hG2
      refine (gfind_ok (b := b) (off := 2) (h8.bring [1, 4, 0]) rfl rfl hG2 d2).mono ?_
      rintro e w2 ⟨r, rfl, v, rfl, h9⟩
      refine Ret.mk ⟨v, rfl, ?_⟩
      have h10 : SatL w2 (GrpOf m2 (s.N.map (·.1)) :: _) := sat_GrpOf.2 ⟨es2, (by rw [k2]; exact hG2), (SatL.pull h9 3 : SatL w2 (MapI _ _ :: _))⟩
      have h11 : SatL w2 (GrpN (.map (some m2)) (s.N.map (·.1)) :: _) := sat_GrpN.2 (.inr ⟨m2, rfl, h10⟩)
      exact SatL.swap (hback w2 (_ :: l') (h11.bring [2, 4, 5, 3, 0, 6, 1]))
  have eF : s.find b = (gfind (pds ps) b).or (gfind (pds qs) b) := by unfold LogS.find; rw [← hps, ← hqs]
  have EF := hid eF
  have HB := hid hback
  clear h1 h2 h3 h4 hps hqs hback k1 k2 hG d1 d2 eF
  cases hg1 : gfind (pds ps) b with
  | some dd =>
    rw [hg1] at hfind
    have E : Hid (s.find b = some dd) := hid (by rw [EF.out, hg1]; rfl)
    clear hg1 EF
    go_enter Try.func28, Try.ntmps28
    go_wp2_with (go_at_call 59; (with_reducible refine hfind.mono ?_); rintro e w1 ⟨r, rfl, v, rfl, h6⟩)
    go_ret2
    rw [E.out]
    exact Ret.mk ⟨_, rfl, SatL.swap (HB.out _ (_ :: l) (SatL.bring h6 [1, 2, 3, 4, 5, 6, 0]))⟩
  | none =>
    rw [hg1] at hfind
    have E : Hid (s.find b = gfind (pds qs) b) := hid (by rw [EF.out, hg1]; rfl)
    clear hg1 EF HB
    have t1 : True := trivial
    go_enter Try.func28, Try.ntmps28
    go_wp2_with (first
      | (have _t := t1; go_at_call 59; (with_reducible refine hfind.mono ?_); rintro e w1 ⟨r, rfl, v, rfl, h6⟩; clear t1; have h7 := hsec _ _ (SatL.tail h6))
      | (go_at_call 59; (with_reducible refine h7.mono ?_); rintro e w2 ⟨r, rfl, v2, rfl, h8⟩))
    go_ret2
    rw [E.out]
    exact Ret.mk ⟨_, rfl, h8⟩
end
end Go.Proofs.Ytjjnadlklfegcaa
