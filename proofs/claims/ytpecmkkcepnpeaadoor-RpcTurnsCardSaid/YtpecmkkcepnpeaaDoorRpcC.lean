/- rpc: cred. No condition beside the sizes. -/
import Derived.Test.YtpecmkkcepnpeaaDoorRpcV
namespace Go.Proofs.YtpecmkkcepnpeaaDoor
set_option linter.unusedVariables false
set_option linter.unusedSimpArgs false
open Go.RowKit
/-- n numbers of 32 bits -/
def Rdr.many : Nat → Rdr → List Nat × Rdr
  | 0, r => ([], r)
  | n + 1, r => ((Rdr.many n r).1 ++ [((Rdr.many n r).2.num 4).1], ((Rdr.many n r).2.num 4).2)
theorem many_len : ∀ (n : Nat) (r : Rdr), (Rdr.many n r).1.length = n
  | 0, _ => rfl
  | n + 1, r => by show ((Rdr.many n r).1 ++ [_]).length = n + 1; rw [List.length_append, many_len n r]; rfl
theorem elem_u32 : ElemOk Tryd.prog 23 22 1 4 [Value.int .u32 0] := .of (z := .int .u32 0) (by kernel_rfl) (by kernel_rfl) rfl rfl (by decide) (by simp [Value.oneCell'])
structure CredL where
  uid : Nat
  gid : Nat
  gids : List Nat
def CredL.none : CredL := ⟨0, 0, []⟩
def sysR (b : List UInt8) : Rdr := (((Rdr.new b).num 4).2.bytes 255).2
def sysG (b : List UInt8) : Rdr := ((sysR b).num 4).2
def sysN (b : List UInt8) : Rdr := ((sysG b).num 4).2
def sysM (b : List UInt8) : Nat := ((sysN b).num 4).1
def sysE (b : List UInt8) : Rdr := if sysM b ≤ 16 then (Rdr.many (sysM b) ((sysN b).num 4).2).2 else ((sysN b).num 4).2
def sysC (b : List UInt8) : CredL := ⟨((sysR b).num 4).1, ((sysG b).num 4).1, (Rdr.many (sysM b) ((sysN b).num 4).2).1⟩
/-- credentials; why they are refused (0: they are not) -/
def credL (kind : Nat) (b : List UInt8) : CredL × Nat :=
  if kind = 0 then (if b.length = 0 then (⟨65534, 65534, []⟩, 0) else (.none, 1))
  else if kind ≠ 1 then (.none, 5)
  else if (sysE b).err = 0 ∧ sysM b ≤ 16 ∧ (sysE b).b.length ≤ (sysE b).p then (sysC b, 0) else (.none, 1)
def CredPost (L : List HP) (q : CredL × Nat) (v : Value) (w : World) : Prop := ∃ gv, v = .tuple #[.agg #[.int .u32 (q.1.uid : Int), .int .u32 (q.1.gid : Int), gv], .int .u32 (q.2 : Int)] ∧ SatL w (Sl 22 gv (q.1.gids.map u32v) :: L)
section
variable {w : World} {L : List HP}
set_option maxRecDepth 100000 in
set_option maxHeartbeats 2000000 in
theorem cred_ok {kind : Nat} {v : Value} {b : List UInt8} (hk : kind < 4294967296) (hb : b.length ≤ 1000) (h : SatL w L) (g : Gives L (RdB v b)) :
    Calls Tryd.prog 68 #[.int .u32 (kind : Int), v] w (Ret (CredPost L (credL kind b))) := by
  obtain ⟨a, c, rfl, g1, g2⟩ := (g w h).valn
  by_cases h0 : kind = 0
  · have t1 : ((kind : Int) == 0) = true := by simp [h0]
    by_cases hl : b.length = 0
    · have hq : credL kind b = (⟨65534, 65534, []⟩, 0) := by unfold credL; rw [if_pos h0, if_pos hl]
      have Hq := hid hq
      have t2 : ((b.length : Int) == 0) = true := by simp [hl]
      clear hq h0 hl g
      go_enter Tryd.func68, Tryd.ntmps68
      go_wp2
      go_returns
      exact Ret.mk (by rw [Hq.out]; exact ⟨.slice none 0 0, rfl, Sl_nil (SatL.tail (h.alloc (.cells #[.int .u32 65534, .int .u32 65534, .slice none 0 0] 25))) ⟩)
    · have hq : credL kind b = (.none, 1) := by unfold credL; rw [if_pos h0, if_neg hl]
      have Hq := hid hq
      have t2 : ((b.length : Int) == 0) = false := by simp; exact fun e => hl (by rw [e]; rfl)
      clear hq h0 hl g
      go_enter Tryd.func68, Tryd.ntmps68
      go_wp2
      go_returns
      exact Ret.mk (by rw [Hq.out]; exact ⟨.slice none 0 0, rfl, Sl_nil (SatL.tail (h.alloc (.cells #[.int .u32 0, .int .u32 0, .slice none 0 0] 25))) ⟩)
  · have t1 : ((kind : Int) == 0) = false := by simp; omega
    by_cases h1 : kind = 1
    case neg =>
      have hq : credL kind b = (.none, 5) := by unfold credL; rw [if_neg h0, if_pos h1]
      have Hq := hid hq
      have t2 : ((kind : Int) == 1) = false := by simp; omega
      clear hq h0 h1 g
      go_enter Tryd.func68, Tryd.ntmps68
      go_wp2
      go_returns
      exact Ret.mk (by rw [Hq.out]; exact ⟨.slice none 0 0, rfl, Sl_nil (SatL.tail (h.alloc (.cells #[.int .u32 0, .int .u32 0, .slice none 0 0] 25))) ⟩)
    case pos =>
    have t2 : ((kind : Int) == 1) = true := by simp [h1]
    have hq : credL kind b = if (sysE b).err = 0 ∧ sysM b ≤ 16 ∧ (sysE b).b.length ≤ (sysE b).p then (sysC b, 0) else (.none, 1) := by unfold credL; rw [if_neg h0, if_neg (by omega)]
    have hE : sysE b = if sysM b ≤ 16 then (Rdr.many (sysM b) ((sysN b).num 4).2).2 else ((sysN b).num 4).2 := rfl
    have hC : sysC b = ⟨((sysR b).num 4).1, ((sysG b).num 4).1, (Rdr.many (sysM b) ((sysN b).num 4).2).1⟩ := rfl
    have hMl : sysM b < 4294967296 := Rdr.num_lt _ _
    unfold sysM at hq hE hC hMl
    have Ha := h.alloc (.cells #[.int .u32 0, .int .u32 0, .slice none 0 0] 25)
    have kN := newreader_ok Ha (fun w' h' => g w' h'.tail) (by omega)
    have k1 := hid (fun (w' : World) (X : List HP) (rb : Nat) (h : SatL w' (RdrR rb (Rdr.new b) :: X)) => u32_ok h)
    have k2 := hid (fun (w' : World) (X : List HP) (rb : Nat) (h : SatL w' (RdrR rb ((Rdr.new b).num 4).2 :: X)) => (bytes_ok (most := 255) (by omega) h : Calls Tryd.prog 67 #[.pointer (some ⟨rb, 0, none⟩), .int .i64 255] w' (Ret fun v w'' => SatL w'' (SlB 5 v _ :: RdrR rb (sysR b) :: X))))
    have k3 := hid (fun (w' : World) (X : List HP) (rb : Nat) (h : SatL w' (RdrR rb (sysR b) :: X)) => (u32_ok h : Calls Tryd.prog 46 #[.pointer (some ⟨rb, 0, none⟩)] w' (Ret fun v w'' => v = .int .u32 (((sysR b).num 4).1 : Int) ∧ SatL w'' (RdrR rb (sysG b) :: X))))
    have k4 := hid (fun (w' : World) (X : List HP) (rb : Nat) (h : SatL w' (RdrR rb (sysG b) :: X)) => (u32_ok h : Calls Tryd.prog 46 #[.pointer (some ⟨rb, 0, none⟩)] w' (Ret fun v w'' => v = .int .u32 (((sysG b).num 4).1 : Int) ∧ SatL w'' (RdrR rb (sysN b) :: X))))
    have k5 := hid (fun (w' : World) (X : List HP) (rb : Nat) (h : SatL w' (RdrR rb (sysN b) :: X)) => (u32_ok h : Calls Tryd.prog 46 #[.pointer (some ⟨rb, 0, none⟩)] w' (Ret fun v w'' => v = .int .u32 (((sysN b).num 4).1 : Int) ∧ SatL w'' (RdrR rb ((sysN b).num 4).2 :: X))))
    have Gg := hid g
    have HE := hid hE
    have HC := hid hC
    have Hq := hid hq
    clear hq hE hC h h0 h1 g Ha
    generalize ((sysR b).num 4).1 = ui at *
    generalize ((sysG b).num 4).1 = gi at *
    generalize ((sysN b).num 4).2 = R at *
    generalize ((sysN b).num 4).1 = M at *
    go_enter Tryd.func68, Tryd.ntmps68
    go_wp2_with (first
      | (go_at_call 45; (with_reducible refine kN.mono ?_); rintro e w1 ⟨q, rfl, rb, rfl, h1⟩; have kk1 := k1.out _ _ _ h1; clear h1 kN)
      | (go_at_call 46; (with_reducible refine kk1.mono ?_); rintro e w2 ⟨q, rfl, rfl, h2⟩; have kk2 := k2.out _ _ _ h2; clear h2 kk1)
      | (go_at_call 67; (with_reducible refine kk2.mono ?_); rintro e w3 ⟨q, rfl, h3⟩; have kk3 := k3.out _ _ _ h3.tail; clear h3 kk2)
      | (go_at_call 46; (with_reducible refine kk3.mono ?_); rintro e w4 ⟨q, rfl, rfl, h4⟩; have kk4 := k4.out _ _ _ h4; clear h4 kk3)
      | (go_at_call 46; (with_reducible refine kk4.mono ?_); rintro e w5 ⟨q, rfl, rfl, h5⟩; have h5a := h5.alloc (.cells #[.int .u32 (ui : Int), .int .u32 (gi : Int), .slice none 0 0] 25); have kk5 := k5.out _ _ _ h5a.swap; clear h5 h5a kk4)
      | (go_at_call 46; (with_reducible refine kk5.mono ?_); rintro e w6 ⟨q, rfl, rfl, h6⟩; clear kk5))
    obtain ⟨c7, hc7⟩ : ∃ c7, c7 = w5.heap.size := ⟨_, rfl⟩
    obtain ⟨c4, hc4⟩ : ∃ c4, c4 = w.heap.size := ⟨_, rfl⟩
    have h6' : SatL w6 (RdrR rb R :: cl w5.heap.size 25 #[.int .u32 (ui : Int), .int .u32 (gi : Int), .slice none 0 0] :: cl w.heap.size 25 #[.int .u32 0, .int .u32 0, .slice none 0 0] :: L) := h6
    rw [← hc7, ← hc4] at h6' ⊢
    have h7 : SatL w6 (RdrR rb (Rdr.many 0 R).2 :: Sl 22 (.slice none 0 0) ((Rdr.many 0 R).1.map u32v) :: cl c7 25 #[.int .u32 (ui : Int), .int .u32 (gi : Int), .slice none 0 0] :: cl c4 25 #[.int .u32 0, .int .u32 0, .slice none 0 0] :: L) := (Sl_nil (T := 22) h6').swap
    clear h6 h6' hc7 hc4 k1 k2 k3 k4 k5
    have Hz := hid (fun (w' : World) (X : List HP) (h : SatL w' (cl c4 25 #[.int .u32 0, .int .u32 0, .slice none 0 0] :: X)) => (⟨h.cell (i := 0) rfl, h.cell (i := 1) rfl, h.cell (i := 2) rfl⟩ : w'.cell? ⟨c4, 0, none⟩ = some (.int .u32 0) ∧ w'.cell? ⟨c4, 1, none⟩ = some (.int .u32 0) ∧ w'.cell? ⟨c4, 2, none⟩ = some (.slice none 0 0)))
    go_loopw [9] (fun i wr => ∃ (j : Nat) (gv : Value), j ≤ M ∧ (j = 0 ∨ M ≤ 16) ∧ i = .int .u32 j ∧ SatL wr (RdrR rb (Rdr.many j R).2 :: Sl 22 gv ((Rdr.many j R).1.map u32v) :: cl c7 25 #[.int .u32 (ui : Int), .int .u32 (gi : Int), gv] :: cl c4 25 #[.int .u32 0, .int .u32 0, .slice none 0 0] :: L)) (fun i _ => M - (intOf i).toNat)
    case atStart => exact ⟨0, _, by omega, .inl rfl, rfl, h7⟩
    case round =>
      clear h7
      obtain ⟨j, gv, hj, hj2, rfl, hs⟩ := hrel
      have hgl : (Rdr.many j R).1.length = j := many_len j R
      by_cases hgo : j < M ∧ M ≤ 16
      · obtain ⟨hlt, hM⟩ := hgo
        have hjz : (j : Int) < M := by omega
        have hMz : (M : Int) ≤ 16 := by omega
        have ku := u32_ok (sat_drew.2 hs)
        have hsn1 : (Rdr.many (j + 1) R).1 = (Rdr.many j R).1 ++ [((Rdr.many j R).2.num 4).1] := rfl
        have hsn2 : (Rdr.many (j + 1) R).2 = ((Rdr.many j R).2.num 4).2 := rfl
        have hxl := Rdr.num_lt (Rdr.many j R).2 4
        rw [show (256 : Nat) ^ 4 = 4294967296 by decide] at hxl
        have S0 : wr.drew.cell? ⟨c7, 2, none⟩ = some gv := SatL.cell (hs.pull 2 : SatL wr (cl c7 _ _ :: _)) (i := 2) rfl
        have Hs1 := hid hsn1
        have Hs2 := hid hsn2
        clear hsn1 hsn2
        generalize ((Rdr.many j R).2.num 4).1 = x at *
        generalize ((Rdr.many j R).2.num 4).2 = rd at *
        generalize (Rdr.many j R).1 = gs at *
        go_upto_region 15 with fail
        refine GoE.start (fun w' => w'.cell? ⟨c7, 2, none⟩ = some gv) 7 8 rfl (by kernel_rfl) ?_
        refine GoE.take (i := 0) (v := ?_) rfl (by decide) (by kernel_rfl) (by kernel_rfl) (by kernel_rfl) (by kernel_rfl) (fun _ _ _ h => h) (by rfl) ?_ (by assumption) ?_
        rotate_left
        · intro w hSw; (try dsimp only at hSw); go_simp; try (with_reducible rfl)
        try simp only [Act.put, List.setIfInBounds_toArray, List.set_cons_zero, List.set_cons_succ]
        refine GoE.take (i := 1) (v := ?_) rfl (by decide) (by kernel_rfl) (by kernel_rfl) (by kernel_rfl) (by kernel_rfl) (fun _ _ _ h => h) (by rfl) ?_ (by assumption) ?_
        rotate_left
        · intro w hSw; (try dsimp only at hSw); go_simp; try (with_reducible rfl)
        try simp only [Act.put, List.setIfInBounds_toArray, List.set_cons_zero, List.set_cons_succ]
        refine GoE.take (i := 2) (v := ?_) rfl (by decide) (by kernel_rfl) (by kernel_rfl) (by kernel_rfl) (by kernel_rfl) (fun _ _ _ h => h) (by rfl) ?_ (by assumption) ?_
        rotate_left
        · intro w hSw; (try dsimp only at hSw); go_simp; try (with_reducible rfl)
        try simp only [Act.put, List.setIfInBounds_toArray, List.set_cons_zero, List.set_cons_succ]
        refine GoE.one (i := 3) rfl (by kernel_rfl) (fun K hK => ?_)
        go_simp
        go_at_call 46
        (with_reducible refine (ku).mono ?_)
        rintro e w2 ⟨q, rfl, rfl, h2⟩; have S1 := SatL.cell (h2.pull 2 : SatL w2 (cl c7 _ _ :: _)) (i := 2) (v := gv) rfl
        go_wp2_with fail
        refine hK.out _ _ (fun _ => S1) ?_
        clear hK K
        try simp only [Act.put, List.setIfInBounds_toArray, List.set_cons_zero, List.set_cons_succ]
        have h3 := h2.alloc (.cells #[.int .u32 (x : Int)] 22)
        have S2 : (w2.alloc (.cells #[.int .u32 (x : Int)] 22)).cell? ⟨c7, 2, none⟩ = some gv := SatL.cell (h3.pull 3 : SatL _ (cl c7 _ _ :: _)) (i := 2) (v := gv) rfl
        refine GoE.one (i := 4) rfl (by kernel_rfl) (fun K hK => ?_)
        go_simp
        refine hK.out _ _ (fun _ => S2) ?_
        clear hK K
        try simp only [Act.put, List.setIfInBounds_toArray, List.set_cons_zero, List.set_cons_succ]
        refine GoE.one (i := 5) rfl (by kernel_rfl) (fun K hK => ?_)
        refine step_append_sl rfl (.tmp 50) (.tmp 53) rfl elem_u32 rfl (Sl.toK (n := j) (h3.bring [2, 0, 1, 3, 4]) (by rw [List.length_map]; exact hgl)) rfl (SrcOk.ofCl (n := 1) elem_u32.under h3 rfl 1) (by simp [Value.oneCell']) (by omega) (by unfold maxLen; omega) ?_
        intro v4 w4 h4 _
        have h5 := Sl.ofK h4
        obtain ⟨va, vc, rfl, _, _⟩ := Sl.valn h5 (m := j + 1) (by simp [hgl])
        have S3 := SatL.cell (h5.pull 3 : SatL w4 (cl c7 _ _ :: _)) (i := 2) (v := gv) rfl
        have S4 := SatL.free (h5.pull 3 : SatL w4 (cl c7 _ _ :: _)) 2
        have hset := SatL.set (h5.pull 3 : SatL w4 (cl c7 _ _ :: _)) (i := 2) (.slice va (j + 1) vc)
        refine hK.out _ _ (fun _ => S3) ?_
        clear hK K
        try simp only [Act.put, List.setIfInBounds_toArray, List.set_cons_zero, List.set_cons_succ]
        refine GoE.take (i := 6) (v := ?_) rfl (by decide) (by kernel_rfl) (by kernel_rfl) (by kernel_rfl) (by kernel_rfl) (fun _ _ _ h => h) (by rfl) ?_ (by assumption) ?_
        rotate_left
        · intro w hSw; (try dsimp only at hSw); go_simp; try (with_reducible rfl)
        try simp only [Act.put, List.setIfInBounds_toArray, List.set_cons_zero, List.set_cons_succ]
        refine GoE.one (i := 7) rfl (by kernel_rfl) (fun K hK => ?_)
        go_simp
        refine hK.out _ _ (fun h => absurd rfl h) ?_
        clear hK K
        try simp only [Act.put, List.setIfInBounds_toArray, List.set_cons_zero, List.set_cons_succ]
        refine GoE.done (by kernel_rfl) ?_
        have Hset := hid hset
        clear hset S0 S1 S2 S3 S4 h2 h3 h4 h5 ku hs
        go_wp2
        go_roundw
        case rel =>
          refine ⟨j + 1, .slice va (j + 1) vc, by omega, .inr hM, by go_num, ?_⟩
          rw [Hs1.out, Hs2.out, List.map_append]
          exact SatL.tail (Hset.out.bring [2, 3, 1, 0, 4])
        case measure => simp [intOf]; omega
      · obtain ⟨gva, gvc, rfl, _, _⟩ := Sl.valn (hs.pull 1 : SatL wr (Sl _ _ _ :: _)) (m := j) (by simp [hgl])
        have hE2 : sysE b = (Rdr.many j R).2 := by
          rw [HE.out]
          by_cases hM : M ≤ 16
          · rw [if_pos hM]
            obtain rfl : j = M := by omega
            rfl
          · rw [if_neg hM]
            obtain rfl : j = 0 := by omega
            rfl
        have hC2 : M ≤ 16 → sysC b = ⟨ui, gi, (Rdr.many j R).1⟩ := fun hM => by
          obtain rfl : j = M := by omega
          exact HC.out
        have HC2 := hid hC2
        have hq2 := Hq.out
        rw [hE2] at hq2
        have hjM : ((j : Int) < M ∧ M ≤ 16) → False := fun h => hgo ⟨by omega, by omega⟩
        have kE := err_ok hs
        have kL := left_ok hs
        have ok7 := rdr_bytes hs
        have Hy := hid (fun (w' : World) (X : List HP) (h : SatL w' (cl c7 25 #[.int .u32 (ui : Int), .int .u32 (gi : Int), .slice gva j gvc] :: X)) => (⟨h.cell (i := 0) rfl, h.cell (i := 1) rfl, h.cell (i := 2) rfl⟩ : w'.cell? ⟨c7, 0, none⟩ = some (.int .u32 (ui : Int)) ∧ w'.cell? ⟨c7, 1, none⟩ = some (.int .u32 (gi : Int)) ∧ w'.cell? ⟨c7, 2, none⟩ = some (.slice gva j gvc)))
        have Hs := hid hs
        clear HE Hq hs hE2 hC2
        generalize (Rdr.many j R).2 = rd at *
        generalize (Rdr.many j R).1 = gs at *
        have hjM2 : decide (j < M) = true → decide (M ≤ 16) = true → False := fun h1 h2 => hjM ⟨by have := of_decide_eq_true h1; omega, of_decide_eq_true h2⟩
        have hpl : rd.p ≤ rd.b.length := ok7.1
        by_cases he : rd.err = 0
        · have t5 : (rd.err == 0) = true := by simp [he]
          by_cases hM : M ≤ 16
          · obtain rfl : j = M := by omega
            have hjj : ¬ j < j := Nat.lt_irrefl j
            have hM2 : ¬ 16 < j := by omega
            have hM3 : ¬ (16 : Int) < j := by omega
            by_cases hl : rd.b.length ≤ rd.p
            · have t6 : ¬ 0 < (rd.b.length : Int) - rd.p := by omega
              have t7 : ¬ rd.p < rd.b.length := by omega
              rw [if_pos ⟨he, hM, hl⟩, HC2.out hM] at hq2
              have Hq2 := hid hq2
              clear hq2 hgo hjM hjM2 hl ok7 HC2 HC t5
              go_wp2_with (first
          | (go_at_call 48; (with_reducible refine kE.mono ?_); rintro e w7 ⟨q, rfl, rfl, rfl⟩)
          | (go_at_call 50; (with_reducible refine kL.mono ?_); rintro e w8 ⟨q, rfl, rfl, h8⟩; have Hs8 := hid h8; obtain ⟨y0, y1, y2⟩ := Hy.out _ _ (h8.pull 2); obtain ⟨z0, z1, z2⟩ := Hz.out _ _ (h8.pull 3); have f0 := SatL.free (h8.pull 3 : SatL w8 (cl c4 _ _ :: _)) 0; have f1 := SatL.free (h8.pull 3 : SatL w8 (cl c4 _ _ :: _)) 1; have f2 := SatL.free (h8.pull 3 : SatL w8 (cl c4 _ _ :: _)) 2; clear h8 kL kE))
              have hZ := SatL.set (SatL.set (SatL.set (Hs8.out.pull 3 : SatL w8 (cl c4 _ _ :: _)) (i := 0) (.int .u32 (ui : Int))) (i := 1) (.int .u32 (gi : Int))) (i := 2) (.slice gva j gvc)
              generalize ((w8.setCell ⟨c4, 0, none⟩ (.int .u32 (ui : Int))).setCell ⟨c4, 1, none⟩ (.int .u32 (gi : Int))).setCell ⟨c4, 2, none⟩ (.slice gva j gvc) = W3 at *
              have r0 := SatL.cell (hZ : SatL W3 (cl c4 _ _ :: _)) (i := 0) rfl
              have r1 := SatL.cell (hZ : SatL W3 (cl c4 _ _ :: _)) (i := 1) rfl
              have r2 := SatL.cell (hZ : SatL W3 (cl c4 _ _ :: _)) (i := 2) rfl
              refine bodyPost_ret (v := .tuple #[.agg #[.int .u32 (ui : Int), .int .u32 (gi : Int), .slice gva j gvc], .int .u32 0]) (by simp [results, Tryd.results68, go_sem, r0, r1, r2]) rfl (Ret.mk ?_)
              rw [Hq2.out]
              exact ⟨.slice gva j gvc, rfl, SatL.tail (SatL.tail (SatL.tail (hZ.bring [0, 1, 3, 2])))⟩
            · have t6 : 0 < (rd.b.length : Int) - rd.p := by omega
              have t7 : rd.p < rd.b.length := by omega
              rw [if_neg (fun h => hl h.2.2)] at hq2
              have Hq2 := hid hq2
              clear hq2 hgo hjM hjM2 hl ok7 HC2 HC t5
              go_wp2_with (first
          | (go_at_call 48; (with_reducible refine kE.mono ?_); rintro e w7 ⟨q, rfl, rfl, rfl⟩)
          | (go_at_call 50; (with_reducible refine kL.mono ?_); rintro e w8 ⟨q, rfl, rfl, h8⟩; have Hs8 := hid h8; obtain ⟨y0, y1, y2⟩ := Hy.out _ _ (h8.pull 2); obtain ⟨z0, z1, z2⟩ := Hz.out _ _ (h8.pull 3); have f0 := SatL.free (h8.pull 3 : SatL w8 (cl c4 _ _ :: _)) 0; have f1 := SatL.free (h8.pull 3 : SatL w8 (cl c4 _ _ :: _)) 1; have f2 := SatL.free (h8.pull 3 : SatL w8 (cl c4 _ _ :: _)) 2; clear h8 kL kE))
              have hZ := SatL.set (SatL.set (SatL.set (Hs8.out.pull 3 : SatL w8 (cl c4 _ _ :: _)) (i := 0) (.int .u32 0)) (i := 1) (.int .u32 0)) (i := 2) (.slice none 0 0)
              generalize ((w8.setCell ⟨c4, 0, none⟩ (.int .u32 0)).setCell ⟨c4, 1, none⟩ (.int .u32 0)).setCell ⟨c4, 2, none⟩ (.slice none 0 0) = W3 at *
              have r0 := SatL.cell (hZ : SatL W3 (cl c4 _ _ :: _)) (i := 0) rfl
              have r1 := SatL.cell (hZ : SatL W3 (cl c4 _ _ :: _)) (i := 1) rfl
              have r2 := SatL.cell (hZ : SatL W3 (cl c4 _ _ :: _)) (i := 2) rfl
              refine bodyPost_ret (v := .tuple #[.agg #[.int .u32 0, .int .u32 0, .slice none 0 0], .int .u32 1]) (by simp [results, Tryd.results68, go_sem, r0, r1, r2]) rfl (Ret.mk ?_)
              rw [Hq2.out]
              exact ⟨.slice none 0 0, rfl, Sl_nil (SatL.tail (SatL.tail (SatL.tail (SatL.tail (hZ.bring [0, 1, 3, 2])))))⟩
          · obtain rfl : j = 0 := by omega
            have hM2 : 16 < M := by omega
            have hM3 : (16 : Int) < M := by omega
            have hM4 : ¬ (M : Int) ≤ 16 := by omega
            rw [if_neg (fun h => hM h.2.1)] at hq2
            have Hq2 := hid hq2
            clear hq2 hgo hjM hjM2 ok7 HC2 HC hM t5
            obtain ⟨z0, z1, z2⟩ := Hz.out _ _ (Hs.out.pull 3)
            have f0 := SatL.free (Hs.out.pull 3 : SatL wr (cl c4 _ _ :: _)) 0
            have f1 := SatL.free (Hs.out.pull 3 : SatL wr (cl c4 _ _ :: _)) 1
            have f2 := SatL.free (Hs.out.pull 3 : SatL wr (cl c4 _ _ :: _)) 2
            go_wp2_with (go_at_call 48; (with_reducible refine kE.mono ?_); rintro e w7 ⟨q, rfl, rfl, rfl⟩)
            have hZ := SatL.set (SatL.set (SatL.set (Hs.out.pull 3 : SatL wr (cl c4 _ _ :: _)) (i := 0) (.int .u32 0)) (i := 1) (.int .u32 0)) (i := 2) (.slice none 0 0)
            generalize ((wr.setCell ⟨c4, 0, none⟩ (.int .u32 0)).setCell ⟨c4, 1, none⟩ (.int .u32 0)).setCell ⟨c4, 2, none⟩ (.slice none 0 0) = W3 at *
            have r0 := SatL.cell (hZ : SatL W3 (cl c4 _ _ :: _)) (i := 0) rfl
            have r1 := SatL.cell (hZ : SatL W3 (cl c4 _ _ :: _)) (i := 1) rfl
            have r2 := SatL.cell (hZ : SatL W3 (cl c4 _ _ :: _)) (i := 2) rfl
            refine bodyPost_ret (v := .tuple #[.agg #[.int .u32 0, .int .u32 0, .slice none 0 0], .int .u32 1]) (by simp [results, Tryd.results68, go_sem, r0, r1, r2]) rfl (Ret.mk ?_)
            rw [Hq2.out]
            exact ⟨.slice none 0 0, rfl, Sl_nil (SatL.tail (SatL.tail (SatL.tail (SatL.tail (hZ.bring [0, 1, 3, 2])))))⟩
        · have t5 : (rd.err == 0) = false := by simpa using he
          rw [if_neg (fun h => he h.1)] at hq2
          have Hq2 := hid hq2
          have hnn : ¬ ((j : Int) < M ∧ (M : Int) ≤ 16) := by omega
          have HjM := hid hgo
          clear hq2 hjM hjM2 ok7 HC2 HC t5
          by_cases hM : M ≤ 16
          · obtain rfl : j = M := by have := HjM.out; omega
            have hjj : ¬ j < j := Nat.lt_irrefl j
            clear hnn
            obtain ⟨z0, z1, z2⟩ := Hz.out _ _ (Hs.out.pull 3)
            have f0 := SatL.free (Hs.out.pull 3 : SatL wr (cl c4 _ _ :: _)) 0
            have f1 := SatL.free (Hs.out.pull 3 : SatL wr (cl c4 _ _ :: _)) 1
            have f2 := SatL.free (Hs.out.pull 3 : SatL wr (cl c4 _ _ :: _)) 2
            go_wp2_with (go_at_call 48; (with_reducible refine kE.mono ?_); rintro e w7 ⟨q, rfl, rfl, rfl⟩)
            have hZ := SatL.set (SatL.set (SatL.set (Hs.out.pull 3 : SatL wr (cl c4 _ _ :: _)) (i := 0) (.int .u32 0)) (i := 1) (.int .u32 0)) (i := 2) (.slice none 0 0)
            generalize ((wr.setCell ⟨c4, 0, none⟩ (.int .u32 0)).setCell ⟨c4, 1, none⟩ (.int .u32 0)).setCell ⟨c4, 2, none⟩ (.slice none 0 0) = W3 at *
            have r0 := SatL.cell (hZ : SatL W3 (cl c4 _ _ :: _)) (i := 0) rfl
            have r1 := SatL.cell (hZ : SatL W3 (cl c4 _ _ :: _)) (i := 1) rfl
            have r2 := SatL.cell (hZ : SatL W3 (cl c4 _ _ :: _)) (i := 2) rfl
            refine bodyPost_ret (v := .tuple #[.agg #[.int .u32 0, .int .u32 0, .slice none 0 0], .int .u32 1]) (by simp [results, Tryd.results68, go_sem, r0, r1, r2]) rfl (Ret.mk ?_)
            rw [Hq2.out]
            exact ⟨.slice none 0 0, rfl, Sl_nil (SatL.tail (SatL.tail (SatL.tail (SatL.tail (hZ.bring [0, 1, 3, 2])))))⟩
          · obtain rfl : j = 0 := by omega
            have hM2 : 16 < M := by omega
            have hM4 : ¬ (M : Int) ≤ 16 := by omega
            clear hnn
            obtain ⟨z0, z1, z2⟩ := Hz.out _ _ (Hs.out.pull 3)
            have f0 := SatL.free (Hs.out.pull 3 : SatL wr (cl c4 _ _ :: _)) 0
            have f1 := SatL.free (Hs.out.pull 3 : SatL wr (cl c4 _ _ :: _)) 1
            have f2 := SatL.free (Hs.out.pull 3 : SatL wr (cl c4 _ _ :: _)) 2
            go_wp2_with (go_at_call 48; (with_reducible refine kE.mono ?_); rintro e w7 ⟨q, rfl, rfl, rfl⟩)
            have hZ := SatL.set (SatL.set (SatL.set (Hs.out.pull 3 : SatL wr (cl c4 _ _ :: _)) (i := 0) (.int .u32 0)) (i := 1) (.int .u32 0)) (i := 2) (.slice none 0 0)
            generalize ((wr.setCell ⟨c4, 0, none⟩ (.int .u32 0)).setCell ⟨c4, 1, none⟩ (.int .u32 0)).setCell ⟨c4, 2, none⟩ (.slice none 0 0) = W3 at *
            have r0 := SatL.cell (hZ : SatL W3 (cl c4 _ _ :: _)) (i := 0) rfl
            have r1 := SatL.cell (hZ : SatL W3 (cl c4 _ _ :: _)) (i := 1) rfl
            have r2 := SatL.cell (hZ : SatL W3 (cl c4 _ _ :: _)) (i := 2) rfl
            refine bodyPost_ret (v := .tuple #[.agg #[.int .u32 0, .int .u32 0, .slice none 0 0], .int .u32 1]) (by simp [results, Tryd.results68, go_sem, r0, r1, r2]) rfl (Ret.mk ?_)
            rw [Hq2.out]
            exact ⟨.slice none 0 0, rfl, Sl_nil (SatL.tail (SatL.tail (SatL.tail (SatL.tail (hZ.bring [0, 1, 3, 2])))))⟩
end
end Go.Proofs.YtpecmkkcepnpeaaDoor
