/- rpc: wrong, known. No condition beside the sizes. -/
import Derived.Test.YtpecmkkcepnpeaaDoorRpcC
namespace Go.Proofs.YtpecmkkcepnpeaaDoor
set_option linter.unusedVariables false
set_option linter.unusedSimpArgs false
open Go.RowKit
/-- an error *rpc.Wrong with an answer of these bytes -/
def WrongR (nb : Nat) (e : Int) (bs : List UInt8) : HP := ex fun v => sep [cl nb 57 #[.int .i64 e, v], SlB 5 v bs]
def WrongPost (L : List HP) (e : Int) (bs : List UInt8) (v : Value) (w : World) : Prop := ∃ nb, v = .iface 53 (.pointer (some ⟨nb, 0, none⟩)) ∧ SatL w (WrongR nb e bs :: L)
def knownL (prog vers proc : Nat) : Int × List Nat :=
  if prog = 100005 ∨ prog = 100003 then
    if vers ≠ 3 then (35, [2, 3, 3]) else if (if prog = 100005 then 5 else 21) < proc then (36, [3]) else (0, [])
  else (34, [1])
def KnownPost (L : List HP) (q : Int × List Nat) (v : Value) (w : World) : Prop := ∃ lv, v = .tuple #[.int .i64 q.1, lv] ∧ SatL w (Sl 22 lv (q.2.map u32v) :: L)
section
variable {w : World} {L : List HP}
theorem sat_WrongR {nb : Nat} {e : Int} {bs : List UInt8} : SatL w (WrongR nb e bs :: L) ↔ ∃ v, SatL w (cl nb 57 #[.int .i64 e, v] :: SlB 5 v bs :: L) := by
  simp only [WrongR, sat_ex, sat_sep, List.cons_append, List.nil_append]
theorem wrong_ok {e : Int} {xid : Nat} {vu : Value} {us : List Nat} (hx : xid < 4294967296) (hu : ∀ u ∈ us, u < 4294967296) (hb : us.length ≤ 1000) (h : SatL w L) (gu : Gives L (RdW vu us)) :
    Calls Tryd.prog 66 #[.int .i64 e, .int .u32 xid, vu] w (Ret (WrongPost L e (be4 (xid :: 1 :: us)))) := by
  have kr := reply_ok hx hu hb h gu
  obtain ⟨a, c, rfl, _, _⟩ := (gu w h).valn
  generalize be4 (xid :: 1 :: us) = BY at *
  clear h gu hu hx
  go_enter Tryd.func66, Tryd.ntmps66
  go_wp2_with (go_at_call 57; (with_reducible refine kr.mono ?_); rintro e w1 ⟨q, rfl, h1⟩; obtain ⟨vn, hvn⟩ : ∃ vn, (bvs BY).length = vn := ⟨_, rfl⟩; obtain ⟨va, vc, rfl, _, _⟩ := Sl.valn h1 (m := vn) hvn; clear hvn)
  go_ret
  exact Ret.mk ⟨_, rfl, sat_WrongR.2 ⟨_, h1.alloc _⟩⟩
theorem Sl_u32s {l : List Nat} {cs : Array Value} {nb n : Nat} (hnb : nb = w.heap.size) (hc : cs = (l.map u32v).toArray) (hn : n = l.length) (hs : n ≤ 1000) (h : SatL w L) : SatL (w.alloc (.cells cs 22)) (Sl 22 (.slice (some ⟨nb, 0, none⟩) n n) (l.map u32v) :: L) := by
  subst hc; subst hn; subst hnb
  have h1 := h.alloc (.cells (l.map u32v).toArray 22)
  refine sat_SlK.2 (.inr ⟨w.heap.size, 0, l.length, (l.map u32v).toArray, ⟨by simp, by simp, by unfold maxLen; omega, by simp, by simp, ?_⟩, h1⟩)
  simp [List.take_of_length_le]
set_option maxRecDepth 100000 in
theorem rknown_ok {xid prog vers proc uid gid : Nat} {gv bv : Value} (hb : xid < 4294967296 ∧ prog < 4294967296 ∧ vers < 4294967296 ∧ proc < 4294967296 ∧ uid < 4294967296 ∧ gid < 4294967296)
    (hg : ∃ a n c, gv = .slice a n c) (hbv : ∃ a n c, bv = .slice a n c) (h : SatL w L) :
    Calls Tryd.prog 69 #[.agg #[.int .u32 (xid : Int), .int .u32 (prog : Int), .int .u32 (vers : Int), .int .u32 (proc : Int), .int .u32 (uid : Int), .int .u32 (gid : Int), gv, bv]] w (Ret (KnownPost L (knownL prog vers proc))) := by
  obtain ⟨a1, n1, c1, rfl⟩ := hg
  obtain ⟨a2, n2, c2, rfl⟩ := hbv
  have h0 := h.alloc (.cells #[.int .u32 (xid : Int), .int .u32 (prog : Int), .int .u32 (vers : Int), .int .u32 (proc : Int), .int .u32 (uid : Int), .int .u32 (gid : Int), .slice a1 n1 c1, .slice a2 n2 c2] 30)
  have Hs := hid h0
  clear h h0
  by_cases h5 : prog = 100005
  · have t5 : ((prog : Int) == 100005) = true := by simp [h5]
    by_cases hv : vers = 3
    · have tv : ((vers : Int) != 3) = false := by simp [hv]
      by_cases hp : 5 < proc
      · have tp : (5 : Int) < proc := by omega
        have hq : knownL prog vers proc = (36, [3]) := by unfold knownL; rw [if_pos (.inl h5), if_neg (by omega), if_pos (by rw [if_pos h5]; exact hp)]
        have Hq := hid hq
        clear hq hv h5
        go_enter Tryd.func69, Tryd.ntmps69
        go_wp2
        go_ret2
        exact Ret.mk (by rw [Hq.out]; exact ⟨_, rfl, SatL.tail ((Sl_u32s (l := [3]) (nb := w.heap.size + 1) (n := 1) (by simp) rfl rfl (by omega) Hs.out).swap)⟩)
      · have tp : ¬ (5 : Int) < proc := by omega
        have hq : knownL prog vers proc = (0, []) := by unfold knownL; rw [if_pos (.inl h5), if_neg (by omega), if_neg (by rw [if_pos h5]; exact hp)]
        have Hq := hid hq
        clear hq hv h5
        go_enter Tryd.func69, Tryd.ntmps69
        go_wp2
        go_ret2
        exact Ret.mk (by rw [Hq.out]; exact ⟨_, rfl, Sl_nil (SatL.tail Hs.out)⟩)
    · have tv : ((vers : Int) != 3) = true := by simp; omega
      have hq : knownL prog vers proc = (35, [2, 3, 3]) := by unfold knownL; rw [if_pos (.inl h5), if_pos hv]
      have Hq := hid hq
      clear hq hv h5
      go_enter Tryd.func69, Tryd.ntmps69
      go_wp2
      go_ret2
      exact Ret.mk (by rw [Hq.out]; exact ⟨_, rfl, SatL.tail ((Sl_u32s (l := [2, 3, 3]) (nb := w.heap.size + 1) (n := 3) (by simp) rfl rfl (by omega) Hs.out).swap)⟩)
  · have t5 : ((prog : Int) == 100005) = false := by simp; omega
    by_cases h3 : prog = 100003
    · have t3 : ((prog : Int) == 100003) = true := by simp [h3]
      by_cases hv : vers = 3
      · have tv : ((vers : Int) != 3) = false := by simp [hv]
        by_cases hp : 21 < proc
        · have tp : (21 : Int) < proc := by omega
          have hq : knownL prog vers proc = (36, [3]) := by unfold knownL; rw [if_pos (.inr h3), if_neg (by omega), if_pos (by rw [if_neg h5]; exact hp)]
          have Hq := hid hq
          clear hq hv h3 h5
          go_enter Tryd.func69, Tryd.ntmps69
          go_wp2
          go_ret2
          exact Ret.mk (by rw [Hq.out]; exact ⟨_, rfl, SatL.tail ((Sl_u32s (l := [3]) (nb := w.heap.size + 1) (n := 1) (by simp) rfl rfl (by omega) Hs.out).swap)⟩)
        · have tp : ¬ (21 : Int) < proc := by omega
          have hq : knownL prog vers proc = (0, []) := by unfold knownL; rw [if_pos (.inr h3), if_neg (by omega), if_neg (by rw [if_neg h5]; exact hp)]
          have Hq := hid hq
          clear hq hv h3 h5
          go_enter Tryd.func69, Tryd.ntmps69
          go_wp2
          go_ret2
          exact Ret.mk (by rw [Hq.out]; exact ⟨_, rfl, Sl_nil (SatL.tail Hs.out)⟩)
      · have tv : ((vers : Int) != 3) = true := by simp; omega
        have hq : knownL prog vers proc = (35, [2, 3, 3]) := by unfold knownL; rw [if_pos (.inr h3), if_pos hv]
        have Hq := hid hq
        clear hq hv h3 h5
        go_enter Tryd.func69, Tryd.ntmps69
        go_wp2
        go_ret2
        exact Ret.mk (by rw [Hq.out]; exact ⟨_, rfl, SatL.tail ((Sl_u32s (l := [2, 3, 3]) (nb := w.heap.size + 1) (n := 3) (by simp) rfl rfl (by omega) Hs.out).swap)⟩)
    · have hq : knownL prog vers proc = (34, [1]) := by unfold knownL; rw [if_neg (by omega)]
      have t3 : ((prog : Int) == 100003) = false := by simp; omega
      have Hq := hid hq
      clear hq h3 h5
      go_enter Tryd.func69, Tryd.ntmps69
      go_wp2
      go_ret2
      exact Ret.mk (by rw [Hq.out]; exact ⟨_, rfl, SatL.tail ((Sl_u32s (l := [1]) (nb := w.heap.size + 1) (n := 1) (by simp) rfl rfl (by omega) Hs.out).swap)⟩)
end
end Go.Proofs.YtpecmkkcepnpeaaDoor
