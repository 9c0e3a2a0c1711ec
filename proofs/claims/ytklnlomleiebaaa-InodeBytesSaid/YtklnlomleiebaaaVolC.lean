/- Block 0 of a volume, by the document. -/
import Derived.Test.YtklnlomleiebaaaMkA
namespace Go.Proofs.Ytklnlomleiebaaa
set_option linter.unusedVariables false
set_option linter.unusedSimpArgs false
open Go.RowKit

section
variable {w : World} {L : List HP}
set_option maxRecDepth 100000 in
set_option maxHeartbeats 4000000 in
theorem refencode_ok (h : SatL w L) (b i : Nat) (hb : b < 4294967296) (hi : i < 4294967296) (t d : Int) :
    Calls Try.prog 38 #[planV b i t d] w (Ret fun v w' => SatL w' (SlB 5 v (encB b i) :: L)) := by
  have w3 := u64_in b (by omega)
  have w4 := u64_in i (by omega)
  have k1 := h.alloc (.cells #[.int .i64 b, .int .i64 i, .int .i64 1, .int .i64 2, .int .i64 68, .int .i64 69, .int .i64 t, .int .i64 d] 98)
  unfold planV
  have hC := crcN_lt (supBody b i)
  have w5 := u64_in (crcN (supBody b i)) (by omega)
  have hl1 := supHead_len b i
  have hl2 := supBody_len b i
  have eh : word8 ++ lowb 4 b ++ lowb 4 i = supHead b i := rfl
  have eb : supHead b i ++ List.replicate (Int.toNat 492) 0 = supBody b i := rfl
  have Hcrc : ∀ (w : World) (v : Value) (L : List HP), SatL w (SlB 5 v (supBody b i) :: L) → Calls Try.prog 47 #[v] w fun e w' => e = .returned (.int .u32 (crcN (supBody b i) : Nat)) ∧ w = w' := fun w v L h => refcrc_ok (SlB.rd h)
  have Hlast : ∀ (w : World) (v : Value) (L : List HP), SatL w (SlB 5 v (supBody b i) :: L) → Calls Try.prog 46 #[v, .int .i64 4, .int .u64 (crcN (supBody b i) : Nat)] w (Ret fun v' w' => SatL w' (SlB 5 v' (encB b i) :: L)) :=
    fun w v L h => low_okI 4 _ h (by omega) (by omega) (by rw [hl2]; omega)
  clear h
  go_enter Try.func38, Try.ntmps38
  go_wp2_with (fail "stop")
  generalize hB : w.heap.size = B at *
  generalize w.alloc (.cells #[.int .i64 b, .int .i64 i, .int .i64 1, .int .i64 2, .int .i64 68, .int .i64 69, .int .i64 t, .int .i64 d] 98) = w0 at *
  clear hB
  have k2 := sat_drew.2 k1
  have c0 : w0.drew.cell? ⟨B, 0, none⟩ = some (.int .i64 b) := (k2 : SatL _ (cl _ _ _ :: _)).cell (i := 0) rfl
  have c1 : w0.drew.cell? ⟨B, 1, none⟩ = some (.int .i64 i) := (k2 : SatL _ (cl _ _ _ :: _)).cell (i := 1) rfl
  have kc : (convert 42 42 (.slice (some ⟨w0.heap.size, 0, none⟩) 8 8)).run Try.prog (w0.alloc (.cells wordCells 5)).drew = .ok (.slice (some ⟨w0.heap.size, 0, none⟩) 8 8) (w0.alloc (.cells wordCells 5 (8, 9))).drew :=
    Lib.run_convert_bytes_const (P := Try.prog) w0.drew 42 5 wordCells 8 8 Try.underlying42 Try.underlying5
  have k3 : SatL (w0.alloc (.cells wordCells 5 (8, 9))).drew (pt w0.heap.size (.cells wordCells 5 (8, 9)) :: _) := sat_drew.2 (k1.alloc (.cells wordCells 5 (8, 9)))
  have hlow : Calls Try.prog 46 #[.slice (some ⟨w0.heap.size, 0, none⟩) 8 8, .int .i64 4, .int .u64 b] (w0.alloc (.cells wordCells 5 (8, 9))).drew (Ret fun v' w' => SatL w' (SlB 5 v' (word8 ++ lowb 4 b) :: _)) :=
    lowc_ok (bs := word8) (k := 4) (by omega) (by omega) (by omega) (by show (8 : Nat) ≤ _; omega) rfl k3 (RdB.ofPt (n := 8) (l := word8) (c := 8) k3 wordCells_eq rfl (by omega) (by omega))
  have m0 : (w0.alloc (.cells wordCells 5)).drew.cell? ⟨B, 0, none⟩ = some (.int .i64 b) := (SatL.pull (sat_drew.2 (k1.alloc (.cells wordCells 5))) 1 : SatL _ (cl _ _ _ :: _)).cell (i := 0) rfl
  have m1 : (w0.alloc (.cells wordCells 5)).drew.cell? ⟨B, 1, none⟩ = some (.int .i64 i) := (SatL.pull (sat_drew.2 (k1.alloc (.cells wordCells 5))) 1 : SatL _ (cl _ _ _ :: _)).cell (i := 1) rfl
  have n0 : (w0.alloc (.cells wordCells 5 (8, 9))).drew.cell? ⟨B, 0, none⟩ = some (.int .i64 b) := (SatL.pull k3 1 : SatL _ (cl _ _ _ :: _)).cell (i := 0) rfl
  have n1 : (w0.alloc (.cells wordCells 5 (8, 9))).drew.cell? ⟨B, 1, none⟩ = some (.int .i64 i) := (SatL.pull k3 1 : SatL _ (cl _ _ _ :: _)).cell (i := 1) rfl
  have t0 : True := trivial
  go_region_held (fun w' => w'.cell? ⟨B, 0, none⟩ = some (.int .i64 b) ∧ w'.cell? ⟨B, 1, none⟩ = some (.int .i64 i))
    (first | exact ⟨c0, c1⟩ | exact ⟨m0, m1⟩ | exact ⟨n0, n1⟩ | go_keep)
    (first
      | (have _t := t0; go_at_call 46; (refine hlow.mono ?_); rintro e w4 ⟨v4, rfl, hs4⟩; clear t0; have c0 : w4.cell? ⟨B, 0, none⟩ = some (.int .i64 b) := (hs4.pull 2 : SatL _ (cl _ _ _ :: _)).cell (i := 0) rfl; have c1 : w4.cell? ⟨B, 1, none⟩ = some (.int .i64 i) := (hs4.pull 2 : SatL _ (cl _ _ _ :: _)).cell (i := 1) rfl)
      | (go_at_call 46; (refine (low_okI 4 i hs4 (by omega) (by omega) (by rw [List.length_append, lowb_len]; show (8 + 4 : Nat) ≤ _; omega)).mono ?_); rintro e w5 ⟨v5, rfl, hs5⟩; have c0 : w5.cell? ⟨B, 0, none⟩ = some (.int .i64 b) := (hs5.pull 2 : SatL _ (cl _ _ _ :: _)).cell (i := 0) rfl; have c1 : w5.cell? ⟨B, 1, none⟩ = some (.int .i64 i) := (hs5.pull 2 : SatL _ (cl _ _ _ :: _)).cell (i := 1) rfl)
      | fail "no")
  have hs6 : SatL w5 (SlB 5 v5 (supHead b i) :: L) := (show SatL w5 (SlB 5 v5 (supHead b i) :: _ :: _ :: L) from hs5).to
  obtain ⟨a6, c6, rfl, q1, q2⟩ := Sl.valn hs6 (m := 16) (by rw [bvs_len, hl1])
  clear hs5 hlow kc k2 k3 hs4
  go_wp2_with (first
    | (go_at_call 40; (refine (noughts_ok (by omega) (by rw [hl1]; omega) hs6).mono ?_); rintro e w6 ⟨v6, rfl, hs7⟩; have hs8 : SatL w6 (SlB 5 v6 (supBody b i) :: L) := hs7; have hcr := Hcrc _ _ _ hs8)
    | (go_at_call 47; (with_reducible refine hcr.mono ?_); rintro e w7 ⟨rfl, rfl⟩)
    | (go_at_call 46; (with_reducible refine (Hlast _ _ _ hs8).mono ?_); rintro e w8 ⟨v8, rfl, hs9⟩))
  go_ret
  exact Ret.mk hs9
end
end Go.Proofs.Ytklnlomleiebaaa
