/- Pin, Unpin, Clean and what they need, of a cache that is owned. -/
import Derived.Test.YtlmjjfgnpcghgaaCache
namespace Go.Proofs.Ytlmjjfgnpcghgaa
set_option linter.unusedVariables false
set_option linter.unusedSimpArgs false
open Go.RowKit

/-- a call's answer, and the cache behind it -/
def CPost (pb : Nat) (most : Int) (l : List HP) (r : Int × List Ent) (v : Value) (w : World) : Prop := v = .int .i64 r.1 ∧ SatL w (CacheR pb most r.2 :: l)

def upd (row : List Ent) (k : Int) (f : Ent → Ent) : List Ent := row.map fun x => if x.b == k then f x else x
theorem upd_mid {r1 r2 : List Ent} {x : Ent} {k : Int} {f : Ent → Ent} (hx : x.b = k) (h1 : ∀ y ∈ r1, ¬ y.b = k) (h2 : ∀ y ∈ r2, ¬ y.b = k) : upd (r1 ++ x :: r2) k f = r1 ++ f x :: r2 := by
  have e : ∀ r : List Ent, (∀ y ∈ r, ¬ y.b = k) → upd r k f = r := by
    intro r h
    unfold upd
    rw [List.map_congr_left (g := id)]; simp
    intro y hy; simp [h y hy]
  have a : upd (r1 ++ x :: r2) k f = upd r1 k f ++ upd (x :: r2) k f := by simp [upd]
  have b : upd (x :: r2) k f = f x :: upd r2 k f := by simp [upd, hx]
  rw [a, b, e r1 h1, e r2 h2]

def pinS (row : List Ent) (k : Int) : Int × List Ent := match row.find? (has k) with
  | none => (17, row)
  | some x => (0, upd row k fun x => { x with pins := x.pins + 1 })
def unpinS (row : List Ent) (k : Int) : Int × List Ent := match row.find? (has k) with
  | none => (17, row)
  | some x => if x.pins == 0 then (1, row) else (0, upd row k fun x => { x with pins := x.pins - 1 })
def cleanS (row : List Ent) (k : Int) : Int × List Ent := match row.find? (has k) with
  | none => (17, row)
  | some x => (0, upd row k fun x => { x with dirty := false })

section
variable {w : World} {l : List HP} {pb : Nat} {most : Int} {row : List Ent}

set_option maxHeartbeats 400000 in
theorem pin_ok (h : SatL w (CacheR pb most row :: l)) (k : Int) (hp : ∀ x ∈ row, 0 ≤ x.pins ∧ x.pins < 1000000) :
    Calls Try.prog 13 #[.pointer (some ⟨pb, 0, none⟩), .int .i64 k] w (Ret (CPost pb most l (pinS row k))) := by
  obtain ⟨rv, mb, es, hm, h⟩ := Cache_open.1 h
  have c2 := h.cell (i := 2) rfl
  have hl := hm.look k
  cases hf : row.find? (has k) with
  | none =>
    rw [hf] at hl
    simp only [Option.map_none] at hl
    have hr := run_lookup_sl key_entry (h.pull 2) k
    rw [hl] at hr
    have Hq := hid (show pinS row k = (17, row) by simp [pinS, hf])
    clear hf
    go_enter Try.func13, Try.ntmps13
    go_wp2
    go_ret
    exact Ret.mk (by rw [Hq.out]; exact ⟨rfl, Cache_open.2 ⟨_, _, _, hm, h⟩⟩)
  | some x =>
    obtain ⟨hx, r1, r2, rfl, g1, g2⟩ := find_split hm.nodup hf
    rw [hf] at hl
    simp only [Option.map_some] at hl
    have hr := run_lookup_sl key_entry (h.pull 2) k
    rw [hl] at hr
    simp only [eptr, Option.getD_some] at hr
    have Hq := hid (show pinS (r1 ++ x :: r2) k = (0, r1 ++ { x with pins := x.pins + 1 } :: r2) by simp only [pinS, hf]; rw [upd_mid hx g1 g2])
    have hs := focus.1 h
    have d2 := hs.cell (i := 2) rfl
    have f2 := hs.free 2
    have hpx := hp x (by simp)
    clear hf
    go_enter Try.func13, Try.ntmps13
    go_wp2
    go_ret
    refine Ret.mk ?_
    rw [Hq.out]
    refine ⟨rfl, Cache_open.2 ⟨rv, mb, es, hm.congr (by simp), focus.2 ?_⟩⟩
    have := hs.set (i := 2) (.int .i64 (x.pins + 1))
    simpa [eptr] using this

set_option maxHeartbeats 400000 in
theorem unpin_ok (h : SatL w (CacheR pb most row :: l)) (k : Int) (hp : ∀ x ∈ row, 0 ≤ x.pins ∧ x.pins < 1000000) :
    Calls Try.prog 16 #[.pointer (some ⟨pb, 0, none⟩), .int .i64 k] w (Ret (CPost pb most l (unpinS row k))) := by
  obtain ⟨rv, mb, es, hm, h⟩ := Cache_open.1 h
  have c2 := h.cell (i := 2) rfl
  have hl := hm.look k
  cases hf : row.find? (has k) with
  | none =>
    rw [hf] at hl
    simp only [Option.map_none] at hl
    have hr := run_lookup_sl key_entry (h.pull 2) k
    rw [hl] at hr
    have Hq := hid (show unpinS row k = (17, row) by simp [unpinS, hf])
    clear hf
    go_enter Try.func16, Try.ntmps16
    go_wp2
    go_ret
    exact Ret.mk (by rw [Hq.out]; exact ⟨rfl, Cache_open.2 ⟨_, _, _, hm, h⟩⟩)
  | some x =>
    obtain ⟨hx, r1, r2, rfl, g1, g2⟩ := find_split hm.nodup hf
    rw [hf] at hl
    simp only [Option.map_some] at hl
    have hr := run_lookup_sl key_entry (h.pull 2) k
    rw [hl] at hr
    simp only [eptr, Option.getD_some] at hr
    have hs := focus.1 h
    have d2 := hs.cell (i := 2) rfl
    have f2 := hs.free 2
    have hpx := hp x (by simp)
    by_cases hz : x.pins = 0
    · have Hq := hid (show unpinS (r1 ++ x :: r2) k = (1, r1 ++ x :: r2) by simp [unpinS, hf, hz])
      have hz' : (x.pins == 0) = true := by simp [hz]
      clear hf hz
      go_enter Try.func16, Try.ntmps16
      go_wp2
      go_ret
      exact Ret.mk (by rw [Hq.out]; exact ⟨rfl, Cache_open.2 ⟨_, _, _, hm, h⟩⟩)
    · have Hq := hid (show unpinS (r1 ++ x :: r2) k = (0, r1 ++ { x with pins := x.pins - 1 } :: r2) by simp only [unpinS, hf]; rw [upd_mid hx g1 g2]; simp [hz])
      have hz' : (x.pins == 0) = false := by simp [hz]
      clear hf hz
      go_enter Try.func16, Try.ntmps16
      go_wp2
      go_ret
      refine Ret.mk ?_
      rw [Hq.out]
      refine ⟨rfl, Cache_open.2 ⟨rv, mb, es, hm.congr (by simp), focus.2 ?_⟩⟩
      have := hs.set (i := 2) (.int .i64 (x.pins - 1))
      simpa [eptr] using this

set_option maxHeartbeats 400000 in
theorem clean_ok (h : SatL w (CacheR pb most row :: l)) (k : Int) :
    Calls Try.prog 17 #[.pointer (some ⟨pb, 0, none⟩), .int .i64 k] w (Ret (CPost pb most l (cleanS row k))) := by
  obtain ⟨rv, mb, es, hm, h⟩ := Cache_open.1 h
  have c2 := h.cell (i := 2) rfl
  have hl := hm.look k
  cases hf : row.find? (has k) with
  | none =>
    rw [hf] at hl
    simp only [Option.map_none] at hl
    have hr := run_lookup_sl key_entry (h.pull 2) k
    rw [hl] at hr
    have Hq := hid (show cleanS row k = (17, row) by simp [cleanS, hf])
    clear hf
    go_enter Try.func17, Try.ntmps17
    go_wp2
    go_ret
    exact Ret.mk (by rw [Hq.out]; exact ⟨rfl, Cache_open.2 ⟨_, _, _, hm, h⟩⟩)
  | some x =>
    obtain ⟨hx, r1, r2, rfl, g1, g2⟩ := find_split hm.nodup hf
    rw [hf] at hl
    simp only [Option.map_some] at hl
    have hr := run_lookup_sl key_entry (h.pull 2) k
    rw [hl] at hr
    simp only [eptr, Option.getD_some] at hr
    have Hq := hid (show cleanS (r1 ++ x :: r2) k = (0, r1 ++ { x with dirty := false } :: r2) by simp only [cleanS, hf]; rw [upd_mid hx g1 g2])
    have hs := focus.1 h
    have d2 := hs.cell (i := 1) rfl
    have f2 := hs.free 1
    clear hf
    go_enter Try.func17, Try.ntmps17
    go_wp2
    go_ret
    refine Ret.mk ?_
    rw [Hq.out]
    refine ⟨rfl, Cache_open.2 ⟨rv, mb, es, hm.congr (by simp), focus.2 ?_⟩⟩
    have := hs.set (i := 1) (.bool false)
    simpa [eptr] using this
end
end Go.Proofs.Ytlmjjfgnpcghgaa
