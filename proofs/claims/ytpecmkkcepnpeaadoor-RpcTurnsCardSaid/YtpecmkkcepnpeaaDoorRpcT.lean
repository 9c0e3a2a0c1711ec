/- rpc: known of the law. Condition: what is held gives errors.errorType's cell. -/
import Derived.Test.YtpecmkkcepnpeaaDoorRpcS
namespace Go.Proofs.YtpecmkkcepnpeaaDoor
set_option linter.unusedVariables false
set_option linter.unusedSimpArgs false
open Go.RowKit
section
variable {w : World} {L : List HP}
def k17a : CallL := ⟨5, 100003, 3, 1, 0, 0, [], [1, 2, 3, 4]⟩
def k17b : CallL := ⟨5, 7, 3, 1, 0, 0, [], [1, 2, 3, 4]⟩
theorem k17a_ok : k17a.ok := ⟨by unfold k17a; dsimp only; omega, by intro g hg; cases hg⟩
theorem k17b_ok : k17b.ok := ⟨by unfold k17b; dsimp only; omega, by intro g hg; cases hg⟩
theorem k17a_rd : readL k17a.bytes = .good k17a := by
  rw [readL_bytes k17a_ok]
  rfl
theorem k17b_rd : readL k17b.bytes = .bad 34 [0, 0, 0, 5, 0, 0, 0, 1, 0, 0, 0, 0, 0, 0, 0, 0, 0, 0, 0, 0, 0, 0, 0, 1] := by
  rw [readL_bytes k17b_ok]
  kernel_rfl
abbrev k17cells (c0 : Nat) (p : Int) : Array Value := #[.int .u32 5, .int .u32 p, .int .u32 3, .int .u32 1, .int .u32 0, .int .u32 0, .slice none 0 0, .slice (some ⟨c0, 0, none⟩) 4 4]
theorem write17 {c0 c1 : Nat} {X : List HP} {c : CallL} {p : Int} (hc : c.ok) (hp : p = (c.prog : Int)) (hx : c = ⟨5, c.prog, 3, 1, 0, 0, [], [1, 2, 3, 4]⟩) (h : SatL w (cl c1 30 (k17cells c0 p) :: pt c0 (.cells #[.int .u8 1, .int .u8 2, .int .u8 3, .int .u8 4] 5) :: X)) :
    Calls Tryd.prog 13 #[.agg (k17cells c0 p)] w (Ret fun v w' => SatL w' (SlB 5 v c.bytes :: cl c1 30 (k17cells c0 p) :: pt c0 (.cells #[.int .u8 1, .int .u8 2, .int .u8 3, .int .u8 4] 5) :: X)) := by
  subst hp
  have h1 := write_ok (gv := .slice none 0 0) (bv := .slice (some ⟨c0, 0, none⟩) 4 4) hc (by rw [hx]; show 4 ≤ 10000000; omega) h (fun _ _ => .inl ⟨rfl, by rw [hx]⟩) (fun w'' h'' => by rw [hx]; exact RdB.v (RdB.ofPt (n := 4) (c := 4) (l := [1, 2, 3, 4]) h''.tail rfl rfl (by decide) (by omega)))
  rw [hx] at h1 ⊢
  exact h1
theorem bytes17 {c : CallL} (hx : c.gids.length ≤ 16 ∧ c.body.length ≤ 4) : c.bytes.length ≤ 1000 := by
  unfold CallL.bytes
  simp only [List.length_append, be4_len, hib_len, CallL.who_len, List.length_take, List.length_cons, List.length_nil]
  omega
set_option maxRecDepth 100000 in
set_option maxHeartbeats 4000000 in
theorem known_ok (h : SatL w L) (hG : Gives L HndW) :
    Calls Tryd.prog 12 #[] w (Ret fun v w' => v = .bool true ∧ SatL w' L) := by
  have h1 := h.alloc (.cells #[.int .u8 1, .int .u8 2, .int .u8 3, .int .u8 4] 5)
  have h2 := SatL.allocN h1 (.cells #[.int .u32 5, .int .u32 100003, .int .u32 3, .int .u32 1, .int .u32 0, .int .u32 0, .slice none 0 0, .slice (some ⟨w.heap.size, 0, none⟩) 4 4] 30) (n := w.heap.size + 1) (by simp)
  have HG := hid hG
  have hc1 : SatL _ (cl (w.heap.size + 1) 30 (k17cells w.heap.size 100003) :: _) := h2
  clear h h1 h2 hG
  go_enter Tryd.func12, Tryd.ntmps12
  go_upto_region 2 with fail
  generalize (w.alloc _).alloc _ = w2 at hc1 ⊢
  generalize w.heap.size + 1 = c1 at hc1 ⊢
  generalize w.heap.size = c0 at hc1 ⊢
  have kw := write17 (c := k17a) k17a_ok (by rfl) rfl hc1
  obtain ⟨x0, x1, x2, x3, x4, x5, x6, x7⟩ := cell8g hc1
  clear hc1
  go_upto_region 3 with (first
    | (go_at_call 13; (with_reducible refine kw.mono ?_); rintro ev w3 ⟨q, rfl, h3⟩; obtain ⟨wn, hwn⟩ : ∃ wn, k17a.bytes.length = wn := ⟨_, rfl⟩; obtain ⟨wa, wc, rfl, _, _⟩ := Sl.valn h3 (m := wn) (by simp [hwn]); clear hwn kw; have kp := parse_ok (by have := bytes17 (c := k17a) (by decide); omega) h3 (fun w' h' => SlB.rd h') (fun w' h' => HG.out w' h'.tail.tail.tail); rw [k17a_rd] at kp)
    | (go_at_call 14; (with_reducible refine kp.mono ?_); rintro ev w4 ⟨q, rfl, gv, bv, hv, h4⟩; obtain ⟨ga, gc, rfl, _, _⟩ := Sl.valn h4 (m := 0) rfl; obtain ⟨ba, bc, rfl, _, _⟩ := Sl.valn h4.tail (m := 4) rfl; replace hv : q = .tuple #[.agg #[.int .u32 5, .int .u32 100003, .int .u32 3, .int .u32 1, .int .u32 0, .int .u32 0, .slice ga 0 gc, .slice ba 4 bc], .nilIface] := hv; subst hv; clear kp))
  have h5 := (((h4.alloc (.cells #[.int .u32 5, .int .u32 100003, .int .u32 3, .int .u32 1, .int .u32 0, .int .u32 0, .slice ga 0 gc, .slice ba 4 bc] 30)).bring [1, 3]).tail).tail
  generalize w4.alloc _ = w5 at h5 ⊢
  generalize w4.heap.size = c2 at h5 ⊢
  clear h3 h4 x0 x1 x2 x3 x4 x5 x6 x7
  have h6 : SatL w5 (cl c1 30 (k17cells c0 100003) :: _) := h5.pull 2
  have x1 := SatL.cell (h6 : SatL w5 (cl c1 _ _ :: _)) (i := 1) (v := .int .u32 100003) rfl
  have f1 := SatL.free (h6 : SatL w5 (cl c1 _ _ :: _)) 1
  have h7 := (SatL.set h6 (i := 1) (.int .u32 7)).bring [0, 3]
  clear h5 h6
  go_upto_region 4 with fail
  generalize w5.setCell ⟨c1, 1, none⟩ (.int .u32 7) = w6 at h7 ⊢
  have h8 : SatL w6 (cl c1 30 (k17cells c0 7) :: pt c0 (.cells #[.int .u8 1, .int .u8 2, .int .u8 3, .int .u8 4] 5) :: _) := h7
  have kw2 := write17 (c := k17b) k17b_ok (by rfl) rfl h8
  obtain ⟨y0, y1, y2, y3, y4, y5, y6, y7⟩ := cell8g h8
  clear h7 h8 x1 f1
  go_upto_region 6 with (first
    | (go_at_call 13; (with_reducible refine kw2.mono ?_); rintro ev w7 ⟨q, rfl, h3⟩; obtain ⟨wn, hwn⟩ : ∃ wn, k17b.bytes.length = wn := ⟨_, rfl⟩; obtain ⟨va, vc, rfl, _, _⟩ := Sl.valn h3 (m := wn) (by simp [hwn]); clear hwn kw2; have kp := parse_ok (by have := bytes17 (c := k17b) (by decide); omega) h3 (fun w' h' => SlB.rd h') (fun w' h' => HG.out w' h'.tail.tail.tail.tail.tail); rw [k17b_rd] at kp)
    | (go_at_call 14; (with_reducible refine kp.mono ?_); rintro ev w8 ⟨q, rfl, nb, rfl, h4⟩; clear kp))
  have h9 := SatL.allocN (h4.alloc (.cells #[.int .u32 0, .int .u32 0, .int .u32 0, .int .u32 0, .int .u32 0, .int .u32 0, .slice none 0 0, .slice none 0 0] 30)) (.cells #[.pointer none] 53) (n := w8.heap.size + 1) (by simp)
  generalize (w8.alloc _).alloc _ = w9 at h9 ⊢
  generalize w8.heap.size + 1 = c6 at h9 ⊢
  generalize w8.heap.size = c4 at h9 ⊢
  have z2 : SatL w9 (cl c2 30 #[.int .u32 5, .int .u32 100003, .int .u32 3, .int .u32 1, .int .u32 0, .int .u32 0, .slice ga 0 gc, .slice ba 4 bc] :: _) := h9.pull 6
  obtain ⟨x0, x1, x2, x3, x4, x5, x6, x7⟩ := cell8g z2
  have hcv : (convert 27 9 (.slice ba 4 bc)).run Tryd.prog w9 = .ok (.string ⟨#[1, 2, 3, 4]⟩) w9 := RdB.conv (SlB.rd (h9.pull 7 : SatL w9 (SlB 5 (.slice ba 4 bc) k17a.body :: _)))
  have kA := as_ok (e := nb) (fun w' h' => HG.out w' h'.tail.tail.tail.tail.tail.tail.tail) (h9 : SatL w9 (cl c6 53 #[.pointer none] :: _))
  clear h3 h4 h9 z2 y0 y1 y2 y3 y4 y5 y6 y7
  go_wp2_with (first
    | (go_at_call 20; (with_reducible refine kA.mono ?_); rintro ev w10 ⟨q, rfl, rfl, h10⟩; have u0 := SatL.cell (h10 : SatL w10 (cl c6 _ _ :: _)) (i := 0) (v := .pointer (some ⟨nb, 0, none⟩)) rfl; obtain ⟨wv, h11⟩ := sat_WrongR.1 (h10.pull 2 : SatL w10 (WrongR nb 34 _ :: _)); obtain ⟨ta, tc, rfl, _, _⟩ := Sl.valn h11.tail (m := 24) rfl; have u1 := SatL.cell (h11 : SatL w10 (cl nb _ _ :: _)) (i := 0) (v := .int .i64 34) rfl; have u2 := SatL.cell (h11 : SatL w10 (cl nb _ _ :: _)) (i := 1) (v := .slice ta 24 tc) rfl; have hcw : (convert 27 9 (.slice ta 24 tc)).run Tryd.prog w10 = .ok (.string ⟨#[0, 0, 0, 5, 0, 0, 0, 1, 0, 0, 0, 0, 0, 0, 0, 0, 0, 0, 0, 0, 0, 0, 0, 1]⟩) w10 := RdB.conv (SlB.rd h11.tail); clear kA))
  go_ret
  exact Ret.mk ⟨rfl, h10.tail.tail.tail.tail.tail.tail.tail.tail⟩
end
end Go.Proofs.YtpecmkkcepnpeaaDoor
