/- The document's cache that is owned: Pin, Unpin, Clean, Drop. No condition beside the sizes that each names. -/
import Derived.Test.YtlmjjfgnpcghgaaRefCacheV
namespace Go.Proofs.Ytlmjjfgnpcghgaa
set_option linter.unusedVariables false
set_option linter.unusedSimpArgs false
open Go.RowKit
/-- a call's answer, and the blocks behind it -/
def RPost (xb : Nat) (most : Int) (l : List HP) (r : Int × List Ent) (v : Value) (w : World) : Prop := v = .int .i64 r.1 ∧ SatL w (RCacheR xb most r.2 :: l)
section
variable {w : World} {l : List HP} {xb : Nat} {most : Int} {row : List Ent} {rv : Value}
theorem rfocus {r1 r2 : List Ent} {x : Ent} : SatL w (RCacheO xb most rv (r1 ++ x :: r2) l) ↔
    SatL w (REntC x :: Sl 5 x.dv x.data :: RCacheC xb most rv :: RPtrs rv (r1 ++ x :: r2) :: RR (r1 ++ r2) :: l) := by
  constructor
  · intro h
    have h1 := big_mid.1 (h.pull 2 : SatL w (RR _ :: _))
    exact (REntR_open.1 h1).bring [0, 1, 3, 4, 2]
  · intro h
    have h1 := REntR_open.2 h
    have h2 := big_mid.2 (h1.bring [0, 3, 1, 2])
    exact h2.bring [1, 2, 0]
theorem rupd {r1 r2 : List Ent} {x x' : Ent} (hb : x'.b = x.b) (he : x'.eb = x.eb) (hdv : x'.dv = x.dv) (hdd : x'.data = x.data) (hnd : ((r1 ++ x :: r2).map (·.b)).Nodup)
    (h : SatL w (REntC x' :: Sl 5 x.dv x.data :: RCacheC xb most rv :: RPtrs rv (r1 ++ x :: r2) :: RR (r1 ++ r2) :: l)) : SatL w (RCacheR xb most (r1 ++ x' :: r2) :: l) := by
  refine RCache_open.2 ⟨rv, ?_, rfocus.2 ?_⟩
  · have e : (r1 ++ x' :: r2).map (·.b) = (r1 ++ x :: r2).map (·.b) := by simp [hb]
    rw [e]; exact hnd
  · have e : (r1 ++ x' :: r2).map eptr = (r1 ++ x :: r2).map eptr := by simp [eptr, he]
    show SatL w (REntC x' :: Sl 5 x'.dv x'.data :: RCacheC xb most rv :: Sl 70 rv ((r1 ++ x' :: r2).map eptr) :: RR (r1 ++ r2) :: l)
    rw [e, hdv, hdd]; exact h
set_option maxRecDepth 100000 in
set_option maxHeartbeats 1000000 in
theorem refpin_ok {k : Int} (h : SatL w (RCacheR xb most row :: l)) (hlen : row.length ≤ 100000) (hp : ∀ x ∈ row, 0 ≤ x.pins ∧ x.pins < 1000000) :
    Calls Try.prog 35 #[.pointer (some ⟨xb, 0, none⟩), .int .i64 k] w (Ret (RPost xb most l (pinS row k))) := by
  obtain ⟨rv, hnd, h0⟩ := RCache_open.1 h
  have ka := refat_ok (k := k) h0 hlen
  unfold RPost
  cases hf : row.find? (has k) with
  | none =>
    rw [hf] at ka
    have Hq := hid (show pinS row k = (17, row) by simp only [pinS, hf])
    simp only [Option.map_none] at ka
    have H := hid h
    clear hf h h0
    go_enter Try.func35, Try.ntmps35
    go_wp2_with (go_at_call 44; (with_reducible refine ka.mono ?_); rintro e w2 ⟨v, rfl, rfl, rfl⟩)
    go_ret
    exact Ret.mk ⟨by rw [Hq.out]; rfl, by rw [Hq.out]; exact H.out⟩
  | some x =>
    rw [hf] at ka
    simp only [Option.map_some] at ka
    obtain ⟨hx, r1, r2, rfl, g1, g2⟩ := find_split hnd hf
    have hs := rfocus.1 h0
    have Hq := hid (show pinS (r1 ++ x :: r2) k = (0, r1 ++ { x with pins := x.pins + 1 } :: r2) by simp only [pinS, hf]; rw [upd_mid hx g1 g2])
    have hpx := hp x (by simp)
    have e3 := SatL.cell (hs : SatL w (REntC x :: _)) (i := 3) (v := .int .i64 x.pins) rfl
    have f3 := SatL.free (hs : SatL w (REntC x :: _)) 3
    have hs2 : SatL (w.setCell ⟨x.eb, 3, none⟩ (.int .i64 (x.pins + 1))) (REntC { x with pins := x.pins + 1 } :: Sl 5 x.dv x.data :: RCacheC xb most rv :: RPtrs rv (r1 ++ x :: r2) :: RR (r1 ++ r2) :: l) := SatL.set (hs : SatL w (REntC x :: _)) (i := 3) (.int .i64 (x.pins + 1))
    have h2 := hid (rupd (x := x) (x' := { x with pins := x.pins + 1 }) rfl rfl rfl rfl hnd hs2)
    clear hs2
    clear hf h h0 hs hnd hp g1 g2 hx
    generalize x.pins = xp at *
    generalize x.eb = xe at *
    go_enter Try.func35, Try.ntmps35
    go_wp2_with (go_at_call 44; (with_reducible refine ka.mono ?_); rintro e w2 ⟨v, rfl, rfl, rfl⟩)
    go_ret
    exact Ret.mk ⟨by rw [Hq.out]; rfl, by rw [Hq.out]; exact h2.out⟩
set_option maxRecDepth 100000 in
set_option maxHeartbeats 1000000 in
theorem refunpin_ok {k : Int} (h : SatL w (RCacheR xb most row :: l)) (hlen : row.length ≤ 100000) (hp : ∀ x ∈ row, 0 ≤ x.pins ∧ x.pins < 1000000) :
    Calls Try.prog 36 #[.pointer (some ⟨xb, 0, none⟩), .int .i64 k] w (Ret (RPost xb most l (unpinS row k))) := by
  obtain ⟨rv, hnd, h0⟩ := RCache_open.1 h
  have ka := refat_ok (k := k) h0 hlen
  unfold RPost
  cases hf : row.find? (has k) with
  | none =>
    rw [hf] at ka
    have Hq := hid (show unpinS row k = (17, row) by simp only [unpinS, hf])
    simp only [Option.map_none] at ka
    have H := hid h
    clear hf h h0
    go_enter Try.func36, Try.ntmps36
    go_wp2_with (go_at_call 44; (with_reducible refine ka.mono ?_); rintro e w2 ⟨v, rfl, rfl, rfl⟩)
    go_ret
    exact Ret.mk ⟨by rw [Hq.out]; rfl, by rw [Hq.out]; exact H.out⟩
  | some x =>
    rw [hf] at ka
    simp only [Option.map_some] at ka
    obtain ⟨hx, r1, r2, rfl, g1, g2⟩ := find_split hnd hf
    have hs := rfocus.1 h0
    have hpx := hp x (by simp)
    have e3 := SatL.cell (hs : SatL w (REntC x :: _)) (i := 3) (v := .int .i64 x.pins) rfl
    have f3 := SatL.free (hs : SatL w (REntC x :: _)) 3
    by_cases hz : x.pins = 0
    · have Hq := hid (show unpinS (r1 ++ x :: r2) k = (1, r1 ++ x :: r2) by simp [unpinS, hf, hz])
      have hz2 : (x.pins == 0) = true := by simpa using hz
      have H := hid h
      clear hf h h0 hs hnd hp g1 g2 hx hz
      generalize x.pins = xp at *
      generalize x.eb = xe at *
      go_enter Try.func36, Try.ntmps36
      go_wp2_with (go_at_call 44; (with_reducible refine ka.mono ?_); rintro e w2 ⟨v, rfl, rfl, rfl⟩)
      go_ret
      exact Ret.mk ⟨by rw [Hq.out]; rfl, by rw [Hq.out]; exact H.out⟩
    · have Hq := hid (show unpinS (r1 ++ x :: r2) k = (0, r1 ++ { x with pins := x.pins - 1 } :: r2) by simp only [unpinS, hf]; rw [upd_mid hx g1 g2]; simp [hz])
      have hz2 : (x.pins == 0) = false := by simpa using hz
      have hs2 : SatL (w.setCell ⟨x.eb, 3, none⟩ (.int .i64 (x.pins - 1))) (REntC { x with pins := x.pins - 1 } :: Sl 5 x.dv x.data :: RCacheC xb most rv :: RPtrs rv (r1 ++ x :: r2) :: RR (r1 ++ r2) :: l) := SatL.set (hs : SatL w (REntC x :: _)) (i := 3) (.int .i64 (x.pins - 1))
      have h2 := hid (rupd (x := x) (x' := { x with pins := x.pins - 1 }) rfl rfl rfl rfl hnd hs2)
      clear hs2
      clear hf h h0 hs hnd hp g1 g2 hx hz
      generalize x.pins = xp at *
      generalize x.eb = xe at *
      go_enter Try.func36, Try.ntmps36
      go_wp2_with (go_at_call 44; (with_reducible refine ka.mono ?_); rintro e w2 ⟨v, rfl, rfl, rfl⟩)
      go_ret
      exact Ret.mk ⟨by rw [Hq.out]; rfl, by rw [Hq.out]; exact h2.out⟩
set_option maxRecDepth 100000 in
set_option maxHeartbeats 1000000 in
theorem refclean_ok {k : Int} (h : SatL w (RCacheR xb most row :: l)) (hlen : row.length ≤ 100000) :
    Calls Try.prog 37 #[.pointer (some ⟨xb, 0, none⟩), .int .i64 k] w (Ret (RPost xb most l (cleanS row k))) := by
  obtain ⟨rv, hnd, h0⟩ := RCache_open.1 h
  have ka := refat_ok (k := k) h0 hlen
  unfold RPost
  cases hf : row.find? (has k) with
  | none =>
    rw [hf] at ka
    have Hq := hid (show cleanS row k = (17, row) by simp only [cleanS, hf])
    simp only [Option.map_none] at ka
    have H := hid h
    clear hf h h0
    go_enter Try.func37, Try.ntmps37
    go_wp2_with (go_at_call 44; (with_reducible refine ka.mono ?_); rintro e w2 ⟨v, rfl, rfl, rfl⟩)
    go_ret
    exact Ret.mk ⟨by rw [Hq.out]; rfl, by rw [Hq.out]; exact H.out⟩
  | some x =>
    rw [hf] at ka
    simp only [Option.map_some] at ka
    obtain ⟨hx, r1, r2, rfl, g1, g2⟩ := find_split hnd hf
    have hs := rfocus.1 h0
    have Hq := hid (show cleanS (r1 ++ x :: r2) k = (0, r1 ++ { x with dirty := false } :: r2) by simp only [cleanS, hf]; rw [upd_mid hx g1 g2])
    have e2 := SatL.cell (hs : SatL w (REntC x :: _)) (i := 2) (v := .bool x.dirty) rfl
    have f2 := SatL.free (hs : SatL w (REntC x :: _)) 2
    have hs2 : SatL (w.setCell ⟨x.eb, 2, none⟩ (.bool false)) (REntC { x with dirty := false } :: Sl 5 x.dv x.data :: RCacheC xb most rv :: RPtrs rv (r1 ++ x :: r2) :: RR (r1 ++ r2) :: l) := SatL.set (hs : SatL w (REntC x :: _)) (i := 2) (.bool false)
    have h2 := hid (rupd (x := x) (x' := { x with dirty := false }) rfl rfl rfl rfl hnd hs2)
    clear hs2
    clear hf h h0 hs hnd g1 g2 hx
    generalize x.eb = xe at *
    go_enter Try.func37, Try.ntmps37
    go_wp2_with (go_at_call 44; (with_reducible refine ka.mono ?_); rintro e w2 ⟨v, rfl, rfl, rfl⟩)
    go_ret
    exact Ret.mk ⟨by rw [Hq.out]; rfl, by rw [Hq.out]; exact h2.out⟩
def dropS (row : List Ent) (k : Int) : Int × List Ent := match row.find? (has k) with
  | none => (17, row)
  | some x => if isFree x then (0, without row k) else (8, row)
set_option maxRecDepth 100000 in
set_option maxHeartbeats 1000000 in
theorem refdrop_ok {k : Int} (h : SatL w (RCacheR xb most row :: l)) (hlen : row.length ≤ 100000) (hp : ∀ x ∈ row, 0 ≤ x.pins ∧ x.pins < 1000000) :
    Calls Try.prog 38 #[.pointer (some ⟨xb, 0, none⟩), .int .i64 k] w (Ret (RPost xb most l (dropS row k))) := by
  obtain ⟨rv, hnd, h0⟩ := RCache_open.1 h
  have ka := refat_ok (k := k) h0 hlen
  unfold RPost
  cases hf : row.find? (has k) with
  | none =>
    rw [hf] at ka
    have Hq := hid (show dropS row k = (17, row) by simp only [dropS, hf])
    simp only [Option.map_none] at ka
    have H := hid h
    clear hf h h0
    go_enter Try.func38, Try.ntmps38
    go_wp2_with (go_at_call 44; (with_reducible refine ka.mono ?_); rintro e w2 ⟨v, rfl, rfl, rfl⟩)
    go_ret
    exact Ret.mk ⟨by rw [Hq.out]; rfl, by rw [Hq.out]; exact H.out⟩
  | some x =>
    rw [hf] at ka
    simp only [Option.map_some] at ka
    obtain ⟨hx, r1, r2, rfl, g1, g2⟩ := find_split hnd hf
    have hs := rfocus.1 h0
    have hpx := hp x (by simp)
    have e2 := SatL.cell (hs : SatL w (REntC x :: _)) (i := 2) (v := .bool x.dirty) rfl
    have e3 := SatL.cell (hs : SatL w (REntC x :: _)) (i := 3) (v := .int .i64 x.pins) rfl
    by_cases hz : isFree x = true
    · have hw : without (r1 ++ x :: r2) k = r1 ++ r2 := by rw [← hx]; exact without_mid (fun y hy e => g1 y hy (by rw [e, hx])) (fun y hy e => g2 y hy (by rw [e, hx]))
      have Hq := hid (show dropS (r1 ++ x :: r2) k = (0, r1 ++ r2) by simp only [dropS, hf, hz, if_true, hw])
      obtain ⟨hd, hpz⟩ : x.dirty = false ∧ x.pins = 0 := by simpa [isFree] using hz
      rw [hd] at e2
      rw [hpz] at e3
      have kg := refgone_ok (xe := x.eb) h0 hlen (rblk_row (by simp))
      have hfin := hid (fun (w' : World) (rv' : Value) (h : SatL w' (RCacheC xb most rv' :: RPtrs rv' (outE (r1 ++ x :: r2) x.eb) :: RR (r1 ++ x :: r2) :: l)) => (RCache_open.2 ⟨rv', (nodup_lose hnd).1, rlost h⟩ : SatL w' (RCacheR xb most (r1 ++ r2) :: l)))
      clear hf h h0 hs hnd hp g1 g2 hx hz hw hd hpz hpx
      generalize x.eb = xe at *
      go_enter Try.func38, Try.ntmps38
      go_wp2_with (first
        | (go_at_call 44; (with_reducible refine ka.mono ?_); rintro e w2 ⟨v, rfl, rfl, rfl⟩)
        | (go_at_call 48; (with_reducible refine kg.mono ?_); rintro e5 w5 ⟨v5, rfl, rfl, rv5, h5⟩))
      go_ret
      exact Ret.mk ⟨by rw [Hq.out]; rfl, by rw [Hq.out]; exact hfin.out _ _ h5⟩
    · have Hq := hid (show dropS (r1 ++ x :: r2) k = (8, r1 ++ x :: r2) by simp [dropS, hf, hz])
      have H := hid h
      by_cases hpz : 0 < x.pins
      · clear hf h h0 hs hnd hp g1 g2 hx hz
        generalize x.eb = xe at *
        generalize x.pins = xp at *
        go_enter Try.func38, Try.ntmps38
        go_wp2_with (go_at_call 44; (with_reducible refine ka.mono ?_); rintro e w2 ⟨v, rfl, rfl, rfl⟩)
        go_ret
        exact Ret.mk ⟨by rw [Hq.out]; rfl, by rw [Hq.out]; exact H.out⟩
      · have hp0 : x.pins = 0 := by omega
        have hd : x.dirty = true := by
          cases hd : x.dirty with
          | true => rfl
          | false => exact absurd (by simp [isFree, hd, hp0]) hz
        rw [hd] at e2
        rw [hp0] at e3
        clear hf h h0 hs hnd hp g1 g2 hx hz hpz hp0 hd hpx
        generalize x.eb = xe at *
        go_enter Try.func38, Try.ntmps38
        go_wp2_with (go_at_call 44; (with_reducible refine ka.mono ?_); rintro e w2 ⟨v, rfl, rfl, rfl⟩)
        go_ret
        exact Ret.mk ⟨by rw [Hq.out]; rfl, by rw [Hq.out]; exact H.out⟩
end
end Go.Proofs.Ytlmjjfgnpcghgaa
