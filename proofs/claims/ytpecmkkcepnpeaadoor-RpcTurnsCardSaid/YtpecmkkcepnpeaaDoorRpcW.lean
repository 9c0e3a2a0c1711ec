/- rpc: reply, Success, Garbage, Mark, Write. No condition beside the sizes. -/
import Derived.Test.YtpecmkkcepnpeaaDoorXdrW
namespace Go.Proofs.YtpecmkkcepnpeaaDoor
set_option linter.unusedVariables false
set_option linter.unusedSimpArgs false
open Go.RowKit

theorem be4_append (a b : List Nat) : be4 (a ++ b) = be4 a ++ be4 b := List.flatMap_append
section
variable {w : World} {L : List HP}
theorem reply_ok {xid : Nat} {vu : Value} {us : List Nat} (hx : xid < 4294967296) (hu : ∀ u ∈ us, u < 4294967296) (hb : us.length ≤ 1000) (h : SatL w L) (gu : Gives L (RdW vu us)) :
    Calls Tryd.prog 57 #[.int .u32 xid, vu] w (Ret fun v w' => SatL w' (SlB 5 v (be4 (xid :: 1 :: us)) :: L)) := by
  have kn := newwriter_ok h
  obtain ⟨a, c, rfl, _, _⟩ := (gu w h).valn
  have Gu := hid gu
  have Hu := hid hu
  have Hx := hid hx
  clear h gu hu hx
  go_enter Tryd.func57, Tryd.ntmps57
  go_wp2_with (first
    | (go_at_call 33; (with_reducible refine kn.mono ?_); rintro e w1 ⟨q, rfl, wb, rfl, h1⟩; have hal := (h1.alloc (.cells #[.int .u32 (xid : Int), .int .u32 1] 22)).swap; have k1 := wu32_ok (us := [xid, 1]) (by intro u hu; simp at hu; have := Hx.out; omega) (by simp) hal (fun w' h' => RdW.ofCl (n := 2) (c := 2) h' rfl rfl (by omega) (by omega)); clear h1 hal kn)
    | (go_at_call 34; (with_reducible refine k1.mono ?_); rintro e w2 ⟨q, rfl, h2⟩; have h3 := SatL.tail h2.swap; have k2 := wu32_ok Hu.out (by simp [be4_len]; omega) h3 Gu.out; clear h2 h3 k1)
    | (go_at_call 34; (with_reducible refine k2.mono ?_); rintro e w4 ⟨q, rfl, h4⟩; have k3 := done_ok h4 (by simp [be4_len]; omega); clear h4 k2)
    | (go_at_call 36; (with_reducible refine k3.mono ?_); rintro e w5 ⟨q, rfl, h5⟩))
  go_ret
  refine Ret.mk ?_
  have h6 := SatL.tail h5.swap
  rw [List.nil_append, ← be4_append] at h6
  exact h6
/-- the numbers of a call -/
structure CallL where
  xid : Nat
  prog : Nat
  vers : Nat
  proc : Nat
  uid : Nat
  gid : Nat
  gids : List Nat
  body : List UInt8
def CallL.ok (c : CallL) : Prop := (c.xid < 4294967296 ∧ c.prog < 4294967296 ∧ c.vers < 4294967296 ∧ c.proc < 4294967296 ∧ c.uid < 4294967296 ∧ c.gid < 4294967296) ∧ (∀ g ∈ c.gids, g < 4294967296)
def CallL.who (c : CallL) : List UInt8 := be4 ([0, 0, c.uid, c.gid, (c.gids.take 16).length] ++ c.gids.take 16)
def CallL.bytes (c : CallL) : List UInt8 := be4 [c.xid, 0, 2, c.prog, c.vers, c.proc, 1] ++ hib 4 c.who.length ++ c.who ++ be4 [0, 0] ++ c.body
def CallL.cells (c : CallL) (gv bv : Value) : Array Value := #[.int .u32 (c.xid : Int), .int .u32 (c.prog : Int), .int .u32 (c.vers : Int), .int .u32 (c.proc : Int), .int .u32 (c.uid : Int), .int .u32 (c.gid : Int), gv, bv]
theorem CallL.who_len (c : CallL) : c.who.length = 20 + 4 * (c.gids.take 16).length := by
  unfold CallL.who; rw [be4_len, List.length_append]; simp only [List.length_cons, List.length_nil]; omega
theorem CallL.who_pad (c : CallL) : pad4 c.who.length = 0 := by rw [CallL.who_len]; unfold pad4; omega
end
end Go.Proofs.YtpecmkkcepnpeaaDoor
