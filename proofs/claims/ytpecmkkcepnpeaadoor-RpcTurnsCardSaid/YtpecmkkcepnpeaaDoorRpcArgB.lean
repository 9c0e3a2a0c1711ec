/- A call that came in. No condition. -/
import Derived.Test.YtpecmkkcepnpeaaDoorRpcArg
namespace Go.Proofs.YtpecmkkcepnpeaaDoor
set_option linter.unusedVariables false
set_option linter.unusedSimpArgs false
open Go.RowKit
variable {w : World}
theorem list8c {cs : List Value} {a b c d e f g h : Value} (hl : cs.length = 8) (h0 : (cs.drop 0).take 1 = [a]) (h1 : (cs.drop 1).take 1 = [b]) (h2 : (cs.drop 2).take 1 = [c]) (h3 : (cs.drop 3).take 1 = [d]) (h4 : (cs.drop 4).take 3 = [e, f, g]) (h7 : (cs.drop 7).take 1 = [h]) : cs = [a, b, c, d, e, f, g, h] := by
  match cs, hl with
  | [p, q, r, s, t, u, v, x], _ => simp at h0 h1 h2 h3 h4 h7; obtain ⟨h4, h5, h6⟩ := h4; rw [h0, h1, h2, h3, h4, h5, h6, h7]
set_option maxRecDepth 100000 in
theorem Rd.call {cs : List Value} (h : Rd Tryd.prog w 30 cs) : ∃ (xi pr ve po ui gi : Nat) (gv bv : Value) (gs : List Nat) (bo : List UInt8), cs = [.int .u32 (xi : Int), .int .u32 (pr : Int), .int .u32 (ve : Int), .int .u32 (po : Int), .int .u32 (ui : Int), .int .u32 (gi : Int), gv, bv] ∧
    (xi < 4294967296 ∧ pr < 4294967296 ∧ ve < 4294967296 ∧ po < 4294967296 ∧ ui < 4294967296 ∧ gi < 4294967296) ∧ (∀ g ∈ gs, g < 4294967296) ∧ RdW gv gs w ∧ RdV bv bo w ∧ gs.length ≤ 35184372088832 ∧ bo.length ≤ 140737488351232 := by
  obtain ⟨hl, hf⟩ := Rd.struct Tryd.underlying30 h
  obtain ⟨xi, e0, q0⟩ := Rd.u32 (hf 0 _ rfl)
  obtain ⟨pr, e1, q1⟩ := Rd.u32 (hf 1 _ rfl)
  obtain ⟨ve, e2, q2⟩ := Rd.u32 (hf 2 _ rfl)
  obtain ⟨po, e3, q3⟩ := Rd.u32 (hf 3 _ rfl)
  obtain ⟨ui, gi, gv, gs, e4, q4, q5, r1, r2, r3⟩ := Rd.cred (hf 4 _ rfl)
  obtain ⟨bv, bo, e5, r4, r5⟩ := Rd.u8s (hf 5 _ rfl)
  have hc : Tryd.prog.cellsOf 30 = 8 := by kernel_rfl
  rw [hc] at hl
  exact ⟨xi, pr, ve, po, ui, gi, gv, bv, gs, bo, list8c hl e0 e1 e2 e3 e4 e5, ⟨q0, q1, q2, q3, q4, q5⟩, r2, r1, r4, r3, r5⟩
end Go.Proofs.YtpecmkkcepnpeaaDoor
