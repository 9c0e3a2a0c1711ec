/- A view over a base whose blocks are all at hand: Get, Put. -/
import Derived.Test.YtklnlomleiebaaaView
namespace Go.Proofs.Ytklnlomleiebaaa
set_option linter.unusedVariables false
set_option linter.unusedSimpArgs false
open Go.RowKit

abbrev Puts := Int → Option (List UInt8)
def Puts512 (puts : Puts) : Prop := ∀ (k : Int) (d : List UInt8), puts k = some d → d.length = 512
def viewAt (rows : List (Option (List UInt8))) (puts : Puts) (k : Nat) : List UInt8 := match puts (k : Int) with
  | some d => d
  | none => (rows[k]?.getD none).getD zero512
abbrev viewCells (m mb n i tb dt : Nat) : Array Value := #[.map (some m), .int .i64 n, .int .i64 i, .int .i64 1, .int .i64 2, .int .i64 68, .int .i64 69, .int .i64 tb, .int .i64 dt, .iface 43 (.pointer (some ⟨mb, 0, none⟩))]
/-- a view: its map, its plan, its base; all rows of 512 bytes -/
def ViewR (vb mb i tb dt : Nat) (rows : List (Option (List UInt8))) (puts : Puts) : HP := ex fun m : Nat =>
  sep [cl vb 82 (viewCells m mb rows.length i tb dt), MapO 5 m (fun k => (puts k).map bvs), BaseR mb rows (List.replicate rows.length false)]

theorem viewAt_len {rows : List (Option (List UInt8))} {puts : Puts} (h : Rows512 rows) (hp : Puts512 puts) (k : Nat) : (viewAt rows puts k).length = 512 := by
  unfold viewAt
  cases hk : puts k with
  | some d => exact hp _ _ hk
  | none =>
    show ((rows[k]?.getD none).getD zero512).length = 512
    cases hr : rows[k]? with
    | none => exact zero512_len
    | some o =>
      cases o with
      | none => exact zero512_len
      | some d => exact h _ _ hr
theorem upo_puts {puts : Puts} {k : Int} {d : List UInt8} : upo (fun k => (puts k).map bvs) k (bvs d) = fun j => (upo puts k d j).map bvs := by
  funext j; unfold upo; split <;> rfl
theorem Puts512.upo {puts : Puts} (h : Puts512 puts) {k : Int} {d : List UInt8} (hd : d.length = 512) : Puts512 (upo puts k d) := by
  intro j x hx
  unfold Go.Proofs.Ytklnlomleiebaaa.upo at hx
  split at hx
  · cases hx; exact hd
  · exact h _ _ hx
theorem viewAt_put {rows : List (Option (List UInt8))} {puts : Puts} {k : Nat} {d : List UInt8} (j : Nat) : viewAt rows (upo puts (k : Int) d) j = if j = k then d else viewAt rows puts j := by
  unfold viewAt upo
  by_cases h : j = k
  · subst h; simp
  · have : ¬ ((j : Int) = k) := by omega
    simp [h, this]

section
variable {w : World} {L : List HP} {vb mb i tb dt : Nat} {rows : List (Option (List UInt8))} {puts : Puts}
theorem sat_ViewR : SatL w (ViewR vb mb i tb dt rows puts :: L) ↔ ∃ m, SatL w (cl vb 82 (viewCells m mb rows.length i tb dt) :: MapO 5 m (fun k => (puts k).map bvs) :: BaseR mb rows (List.replicate rows.length false) :: L) := by
  constructor
  · intro h
    obtain ⟨a, h⟩ := sat_ex.1 h
    exact ⟨a, sat_sep.1 h⟩
  · rintro ⟨a, h⟩
    exact sat_ex.2 ⟨a, sat_sep.2 h⟩
theorem bna (a : Addr) (w : World) : (nilAhead 235 43 (.pointer (some a)) "Block").run Try.prog w = .ok (some false) w := by kernel_rfl
theorem bme (a : Addr) (w : World) : (method 235 43 (.pointer (some a)) "Block").run Try.prog w = .ok (65, .pointer (some a)) w := by kernel_rfl
theorem bcf (args : Array Value) (w : World) : (callFunc 65 args).run Try.prog w = .ok (.enter 65 args) w := by kernel_rfl

set_option maxHeartbeats 1000000 in
theorem get_put {k : Nat} {d : List UInt8} (h : SatL w (ViewR vb mb i tb dt rows puts :: L)) (hk : k < rows.length) (hp : puts (k : Int) = some d) (hd : d.length = 512) :
    Calls Try.prog 16 #[.pointer (some ⟨vb, 0, none⟩), .int .i64 k] w (Ret fun v w' => ∃ dv, v = .tuple #[dv, .nilIface] ∧ SatL w' (SlB 5 dv d :: ViewR vb mb i tb dt rows puts :: L)) := by
  obtain ⟨m, h1⟩ := sat_ViewR.1 h
  have c0 := h1.cell (i := 0) rfl
  have c1 := h1.cell (i := 1) rfl
  have hh := has_in hk c1
  obtain ⟨es, R, M, h2, hr, hback, _⟩ := mapo_open (h1.pull 1 : SatL w (MapO _ _ _ :: _)) (k : Int)
  rw [hp] at hr
  obtain ⟨v, hm, rfl⟩ := hr
  have hl := run_lookup_ok_sl key_view (h2.pull 1) (k : Int)
  rw [hm] at hl
  have hcl := clone_bytes (xs := d) h2 (by omega)
  obtain ⟨av, cv, rfl, q1, q2⟩ := Sl.valn h2 (m := 512) (by rw [bvs_len, hd])
  have hfin : ∀ (w' : World) (v' : Value), SatL w' (SlB 5 v' d :: SlB 5 (.slice av 512 cv) d :: MapI m es :: M :: cl vb 82 (viewCells m mb rows.length i tb dt) :: BaseR mb rows (List.replicate rows.length false) :: L) → SatL w' (SlB 5 v' d :: ViewR vb mb i tb dt rows puts :: L) := by
    intro w' v' h
    have h3 := hback w' _ (h.bring [1, 2, 3, 4, 5, 0])
    exact (sat_ViewR.2 ⟨m, h3.bring [1, 0, 2]⟩).swap
  simp only [Option.getD_some, Option.isSome_some] at hl
  clear h1 h2 hm hback h
  go_enter Try.func16, Try.ntmps16
  go_wp2_with (first
    | (go_at_call 28; (with_reducible refine hh.mono ?_); rintro e w1 ⟨rfl, rfl⟩)
    | (go_at_call 29; (with_reducible refine hcl.mono ?_); rintro e w2 ⟨v2, rfl, hs2⟩))
  go_ret2
  exact Ret.mk ⟨_, rfl, hfin _ _ hs2⟩

set_option maxHeartbeats 1000000 in
theorem get_base {k : Nat} (h : SatL w (ViewR vb mb i tb dt rows puts :: L)) (hk : k < rows.length) (hp : puts (k : Int) = none) (hr5 : Rows512 rows) (hn : rows.length ≤ 1000000) :
    Calls Try.prog 16 #[.pointer (some ⟨vb, 0, none⟩), .int .i64 k] w (Ret fun v w' => ∃ dv, v = .tuple #[dv, .nilIface] ∧ SatL w' (SlB 5 dv ((rows[k]?.getD none).getD zero512) :: ViewR vb mb i tb dt rows puts :: L)) := by
  obtain ⟨m, h1⟩ := sat_ViewR.1 h
  have c0 := h1.cell (i := 0) rfl
  have c1 := h1.cell (i := 1) rfl
  have c9 := h1.cell (i := 9) rfl
  have hh := has_in hk c1
  obtain ⟨es, R, M, h2, hr, hback, _⟩ := mapo_open (h1.pull 1 : SatL w (MapO _ _ _ :: _)) (k : Int)
  rw [hp] at hr
  have hm : mget es (k : Int) = none := hr
  have hl := run_lookup_ok_sl key_view (h2.pull 1) (k : Int)
  rw [hm] at hl
  simp only [Option.getD_none, Option.isSome_none] at hl
  have hro : rows[k]? = some rows[k] := List.getElem?_eq_getElem hk
  have hbk := block_ok (h1.pull 2 : SatL w (BaseR _ _ _ :: _)) hro hr5 hn
  have e1 : (rows[k]?.getD none).getD zero512 = rows[k].getD zero512 := by rw [hro]; rfl
  have hlen : (rows[k].getD zero512).length = 512 := by
    cases ho : rows[k] with
    | none => exact zero512_len
    | some d => exact hr5 k d (by rw [hro, ho])
  rw [e1]
  generalize rows[k].getD zero512 = d at *
  have hfin : ∀ (w' : World) (v' v2 : Value), SatL w' (SlB 5 v' d :: SlB 5 v2 d :: BaseR mb rows (List.replicate rows.length false) :: cl vb 82 (viewCells m mb rows.length i tb dt) :: MapO 5 m (fun k => (puts k).map bvs) :: L) → SatL w' (SlB 5 v' d :: ViewR vb mb i tb dt rows puts :: L) := by
    intro w' v' v2 h
    have h3 := SatL.tail (h.bring [1, 3, 4, 2, 0])
    exact (sat_ViewR.2 ⟨m, h3⟩).swap
  have b1 := bna
  have b2 := bme
  have b3 := bcf
  clear h1 h2 hm hback h hr hro e1 hp hr5
  go_enter Try.func16, Try.ntmps16
  go_wp2_with (first
    | (go_at_call 28; (with_reducible refine hh.mono ?_); rintro e w1 ⟨rfl, rfl⟩)
    | (go_at_call 29; (with_reducible refine (hcl _ _ hs1).mono ?_); rintro e w2 ⟨v2, rfl, hs2⟩)
    | ((with_reducible refine hbk.mono ?_); rintro e w3 ⟨v, rfl, dv, rfl, hs1⟩; obtain ⟨av, cv, rfl, q1, q2⟩ := Sl.valn hs1 (m := 512) (by rw [bvs_len, hlen]); have hcl := fun (w : World) (L : List HP) (h : SatL w (SlB 5 (.slice av 512 cv) d :: L)) => clone_bytes h (by omega)))
  go_ret2
  exact Ret.mk ⟨_, rfl, hfin _ _ _ hs2⟩
theorem get_ok {k : Nat} (h : SatL w (ViewR vb mb i tb dt rows puts :: L)) (hk : k < rows.length) (hr5 : Rows512 rows) (hp5 : Puts512 puts) (hn : rows.length ≤ 1000000) :
    Calls Try.prog 16 #[.pointer (some ⟨vb, 0, none⟩), .int .i64 k] w (Ret fun v w' => ∃ dv, v = .tuple #[dv, .nilIface] ∧ SatL w' (SlB 5 dv (viewAt rows puts k) :: ViewR vb mb i tb dt rows puts :: L)) := by
  cases hp : puts (k : Int) with
  | some d =>
    have e : viewAt rows puts k = d := by unfold viewAt; rw [hp]
    rw [e]
    exact get_put h hk hp (hp5 _ _ hp)
  | none =>
    have e : viewAt rows puts k = (rows[k]?.getD none).getD zero512 := by unfold viewAt; rw [hp]
    rw [e]
    exact get_base h hk hp hr5 hn

set_option maxRecDepth 100000 in
set_option maxHeartbeats 1000000 in
theorem put_ok {k : Nat} {dv : Value} {d : List UInt8} (h : SatL w (SlB 5 dv d :: ViewR vb mb i tb dt rows puts :: L)) (hk : k < rows.length) (hd : d.length = 512) :
    Calls Try.prog 20 #[.pointer (some ⟨vb, 0, none⟩), .int .i64 k, dv] w (Ret fun v w' => v = .nilIface ∧ SatL w' (ViewR vb mb i tb dt rows (upo puts (k : Int) d) :: SlB 5 dv d :: L)) := by
  obtain ⟨m, h1⟩ := sat_ViewR.1 h.swap
  have c1 := h1.cell (i := 1) rfl
  have hh := has_in hk c1
  obtain ⟨es, R, M, h2, _, _, hput⟩ := mapo_open (h1.pull 1 : SatL w (MapO _ _ _ :: _)) (k : Int)
  have h3 := sat_drew.2 (h2.pull 5 : SatL w (SlB 5 dv d :: _))
  have c0 : w.drew.cell? ⟨vb, 0, none⟩ = some (.map (some m)) := (h3.pull 4 : SatL _ (cl _ _ _ :: _)).cell (i := 0) rfl
  obtain ⟨av, cv, rfl, q1, q2⟩ := Sl.valn h3 (m := 512) (by rw [bvs_len, hd])
  have hcl := clone_bytes h3 (by omega)
  have hfin : ∀ (w' : World) (v' : Value), SatL w' (MapI m (mput es (k : Int) v') :: SlB 5 v' d :: SlB 5 (.slice av 512 cv) d :: R :: M :: cl vb 82 (viewCells m mb rows.length i tb dt) :: BaseR mb rows (List.replicate rows.length false) :: L) → SatL w' (ViewR vb mb i tb dt rows (upo puts (k : Int) d) :: SlB 5 (.slice av 512 cv) d :: L) := by
    intro w' v' h
    have h4 := hput w' v' (bvs d) _ (h.bring [1, 0, 4, 2, 5, 6])
    rw [upo_puts] at h4
    exact sat_ViewR.2 ⟨m, SatL.tail (h4.bring [4, 2, 0, 3, 1])⟩
  clear h1 h2 hput h
  go_enter Try.func20, Try.ntmps20
  go_wp2_with (first
    | (go_at_call 28; (with_reducible refine hh.mono ?_); rintro e w1 ⟨rfl, rfl⟩))
  go_region_held3 (fun w' => w'.cell? ⟨vb, 0, none⟩ = some (.map (some m)))
    (first | exact c0 | exact m0 | exact m3 | go_keep)
    (first
      | (go_at_call 29; (with_reducible refine hcl.mono ?_); rintro e w2 ⟨v2, rfl, hs2⟩; have m0 : w2.cell? ⟨vb, 0, none⟩ = some (.map (some m)) := (SatL.pull hs2 5 : SatL _ (cl _ _ _ :: _)).cell (i := 0) rfl; obtain ⟨w3, rM, hs3⟩ := run_mapUpdate_sl key_view (SatL.pull hs2 3) (k : Int) v2; have m3 : w3.cell? ⟨vb, 0, none⟩ = some (.map (some m)) := (SatL.pull hs3 5 : SatL _ (cl _ _ _ :: _)).cell (i := 0) rfl))
  go_wp2
  go_ret
  exact Ret.mk ⟨rfl, hfin _ _ hs3⟩
end
end Go.Proofs.Ytklnlomleiebaaa
