/- the document's rpc: sys: credentials of kind 1. No condition beside the sizes. -/
import Derived.Test.YtpecmkkcepnpeaaDoorRxB
import Derived.Test.YtpecmkkcepnpeaaDoorRpcR
namespace Go.Proofs.YtpecmkkcepnpeaaDoor
set_option linter.unusedVariables false
set_option linter.unusedSimpArgs false
open Go.RowKit
def sysGood (b : List UInt8) : Prop := (sysE b).err = 0 ∧ sysM b ≤ 16 ∧ (sysE b).b.length ≤ (sysE b).p
instance (b : List UInt8) : Decidable (sysGood b) := by unfold sysGood; infer_instance
def sysL (b : List UInt8) : CredL × Bool := if sysGood b then (sysC b, true) else (.none, false)
theorem credL_sys (b : List UInt8) : credL 1 b = if sysGood b then (sysC b, 0) else (.none, 1) := by
  unfold credL sysGood
  rw [if_neg (by decide), if_neg (by decide)]
theorem many_b : ∀ (k : Nat) (r : Rdr), (Rdr.many k r).2.b = r.b := by
  intro k
  induction k with
  | zero => intro r; rfl
  | succ k ih => intro r; show ((Rdr.many k r).2.num 4).2.b = r.b; rw [Rdr.num_b]; exact ih r
def SysPost (L : List HP) (q : CredL × Bool) (v : Value) (w : World) : Prop := ∃ gv, v = .tuple #[.agg #[.int .u32 (q.1.uid : Int), .int .u32 (q.1.gid : Int), gv], .bool q.2] ∧ SatL w (Sl 22 gv (q.1.gids.map u32v) :: L)
section
variable {w : World} {L : List HP}
/-- s[j:] of what came in, as a run fact -/
theorem RdV.fr {v : Value} {b : List UInt8} {j : Nat} (h : RdV v b w) (hj : j ≤ b.length) : ∃ v', (∀ w', (Instr.sliceAt 27 v (some (.int .i64 (j : Int))) none none).run Tryd.prog w' = .ok v' w') ∧ ∀ w', RdV v b w' → RdV v' (b.drop j) w' := by
  rcases Nat.eq_zero_or_pos b.length with h0 | h0
  · obtain rfl : b = [] := List.eq_nil_of_length_eq_zero h0
    obtain rfl : j = 0 := by simpa using hj
    have hu : Tryd.prog.underlying 27 = some (.slice (Tryd.prog.elem 27)) := by kernel_rfl
    rcases h with ⟨rfl, _⟩ | ⟨A, c, rfl, h1, h2, h3⟩
    · refine ⟨.slice none 0 0, fun w' => ?_, fun w' _ => .inl ⟨rfl, rfl⟩⟩
      have hz : (sizeOf (Tryd.prog.elem 27)).run Tryd.prog w' = .ok 1 w' := by kernel_rfl
      rw [run_sliceAt_slice _ _ _ _ _ _ hu, run_slice_l _ _ _ _ _ hu .i64 ((0 : Nat) : Int) (by omega) (by omega), hz]
      rfl
    · refine ⟨.slice (if c = 0 then some A else some (A.add (0 * 1))) 0 c, fun w' => ?_, fun w' _ => .inr ?_⟩
      · have hz : (sizeOf (Tryd.prog.elem 27)).run Tryd.prog w' = .ok 1 w' := by kernel_rfl
        rw [run_sliceAt_slice _ _ _ _ _ _ hu, run_slice_l _ _ _ _ _ hu .i64 ((0 : Nat) : Int) (by omega) (by simp), hz]
        simp only [Result.andThen, sliced, Int.toNat_natCast, Option.map_some, Nat.sub_zero, Nat.sub_self, List.length_nil]
      · split
        · exact ⟨A, c, rfl, Nat.zero_le _, h2, fun h => absurd h (by simp)⟩
        · exact ⟨A.add (0 * 1), c, rfl, Nat.zero_le _, h2, fun h => absurd h (by simp)⟩
  · obtain ⟨v', h1, h2⟩ := RdB.from (h.b h0) hj
    exact ⟨v', h1, fun w' h' => RdB.v (h2 w' (h'.b h0))⟩
set_option maxRecDepth 100000 in
set_option maxHeartbeats 4000000 in
theorem refsys_ok {v : Value} {b : List UInt8} (hb : b.length ≤ 1000) (h : SatL w L) (g : Gives L (RdV v b)) :
    Calls Tryd.prog 58 #[v] w (Ret (SysPost L (sysL b))) := by
  obtain ⟨a, c, rfl, g1, g2⟩ := (g w h).valn
  have hq : sysL b = if (sysE b).err = 0 ∧ sysM b ≤ 16 ∧ (sysE b).b.length ≤ (sysE b).p then (sysC b, true) else (.none, false) := rfl
  have hE : sysE b = if sysM b ≤ 16 then (Rdr.many (sysM b) ((sysN b).num 4).2).2 else ((sysN b).num 4).2 := rfl
  have hC : sysC b = ⟨((sysR b).num 4).1, ((sysG b).num 4).1, (Rdr.many (sysM b) ((sysN b).num 4).2).1⟩ := rfl
  have hMl : sysM b < 4294967296 := Rdr.num_lt _ _
  have hEb : (sysE b).b = b := by
    have hm : ∀ (k : Nat) (r : Rdr), (Rdr.many k r).2.b = r.b := by
      intro k
      induction k with
      | zero => intro r; rfl
      | succ k ih => intro r; show ((Rdr.many k r).2.num 4).2.b = r.b; rw [Rdr.num_b]; exact ih r
    have hN : ((sysN b).num 4).2.b = b := by unfold sysN sysG sysR; simp only [Rdr.num_b, Rdr.bytes_b]; rfl
    unfold sysE
    split
    · rw [hm]; exact hN
    · exact hN
  unfold sysM at hq hE hC hMl
  have Ha := h.alloc (.cells #[.int .u32 0, .int .u32 0, .slice none 0 0] 25)
  have Hb := SatL.allocN (n := w.heap.size + 1) Ha (.cells #[.slice a b.length c, .int .i64 0, .int .i64 0] 114) (by simp)
  have hr0 : SatL ((w.alloc (.cells #[.int .u32 0, .int .u32 0, .slice none 0 0] 25)).alloc (.cells #[.slice a b.length c, .int .i64 0, .int .i64 0] 114)) (RrR (w.heap.size + 1) (.slice a b.length c) (Rdr.new b) :: cl w.heap.size 25 #[.int .u32 0, .int .u32 0, .slice none 0 0] :: L) := sat_RrR.2 ⟨⟨Nat.zero_le _, by show b.length ≤ _; omega⟩, Hb⟩
  have g0 : Gives (cl w.heap.size 25 #[.int .u32 0, .int .u32 0, .slice none 0 0] :: L) (RdV (.slice a b.length c) b) := g.nx
  obtain ⟨bl, hbl⟩ : ∃ bl, b.length = bl := ⟨_, rfl⟩
  rw [hbl] at hr0 g0
  have kk1 := refu32_ok hr0 g0
  have k2 := hid (fun (w' : World) (h : SatL w' (RrR (w.heap.size + 1) (.slice a bl c) ((Rdr.new b).num 4).2 :: cl w.heap.size 25 #[.int .u32 0, .int .u32 0, .slice none 0 0] :: L)) => (refbytes_ok (most := 255) (by omega) h (by rw [Rdr.num_b]; exact g0) : Calls Tryd.prog 52 #[.pointer (some ⟨w.heap.size + 1, 0, none⟩), .int .i64 255] w' (Ret fun v w'' => SatL w'' (SlB 5 v _ :: RrR (w.heap.size + 1) (.slice a bl c) (sysR b) :: _))))
  have hbR : (sysR b).b = b := by unfold sysR; simp only [Rdr.num_b, Rdr.bytes_b]; rfl
  have hbG : (sysG b).b = b := by unfold sysG; rw [Rdr.num_b, hbR]
  have hbN : (sysN b).b = b := by unfold sysN; rw [Rdr.num_b, hbG]
  have k3 := hid (fun (w' : World) (X : List HP) (h : SatL w' (RrR (w.heap.size + 1) (.slice a bl c) (sysR b) :: X)) (gx : Gives X (RdV (.slice a bl c) b)) => (refu32_ok h (by rw [hbR]; exact gx) : Calls Tryd.prog 51 #[.pointer (some ⟨w.heap.size + 1, 0, none⟩)] w' (Ret fun v w'' => v = .int .u32 (((sysR b).num 4).1 : Int) ∧ SatL w'' (RrR (w.heap.size + 1) (.slice a bl c) (sysG b) :: X))))
  have k4 := hid (fun (w' : World) (X : List HP) (h : SatL w' (RrR (w.heap.size + 1) (.slice a bl c) (sysG b) :: X)) (gx : Gives X (RdV (.slice a bl c) b)) => (refu32_ok h (by rw [hbG]; exact gx) : Calls Tryd.prog 51 #[.pointer (some ⟨w.heap.size + 1, 0, none⟩)] w' (Ret fun v w'' => v = .int .u32 (((sysG b).num 4).1 : Int) ∧ SatL w'' (RrR (w.heap.size + 1) (.slice a bl c) (sysN b) :: X))))
  have k5 := hid (fun (w' : World) (X : List HP) (h : SatL w' (RrR (w.heap.size + 1) (.slice a bl c) (sysN b) :: X)) (gx : Gives X (RdV (.slice a bl c) b)) => (refu32_ok h (by rw [hbN]; exact gx) : Calls Tryd.prog 51 #[.pointer (some ⟨w.heap.size + 1, 0, none⟩)] w' (Ret fun v w'' => v = .int .u32 (((sysN b).num 4).1 : Int) ∧ SatL w'' (RrR (w.heap.size + 1) (.slice a bl c) ((sysN b).num 4).2 :: X))))
  have Gg := hid g0
  have HE := hid hE
  have HC := hid hC
  have Hq := hid hq
  have HEb := hid hEb
  have Hbl := hid hbl
  clear hq hE hC h g Ha Hb hr0 g0 hEb hbR hbG hbN hbl
  generalize ((sysR b).num 4).1 = ui at *
  generalize ((sysG b).num 4).1 = gi at *
  have hRb : ((sysN b).num 4).2.b = (sysE b).b := by
    have hm : ∀ (k : Nat) (r : Rdr), (Rdr.many k r).2.b = r.b := by
      intro k
      induction k with
      | zero => intro r; rfl
      | succ k ih => intro r; show ((Rdr.many k r).2.num 4).2.b = r.b; rw [Rdr.num_b]; exact ih r
    rw [HE.out]
    split
    · rw [hm]
    · rfl
  rw [HEb.out] at hRb
  have HRb := hid hRb
  clear hRb
  generalize ((sysN b).num 4).2 = R at *
  generalize ((sysN b).num 4).1 = M at *
  go_enter Tryd.func58, Tryd.ntmps58
  rw [Hbl.out]
  go_upto_region 8 with (first
    | (go_at_call 51; (with_reducible refine kk1.mono ?_); rintro e w2 ⟨q, rfl, rfl, h2⟩; have kk2 := k2.out _ h2; clear h2 kk1)
    | (go_at_call 52; (with_reducible refine kk2.mono ?_); rintro e w3 ⟨q, rfl, h3⟩; have h3a := h3.tail.alloc (.cells #[.int .u32 0, .int .u32 0, .slice none 0 0] 25); have kk3 := k3.out _ _ h3a.swap Gg.out.nx; clear h3 h3a kk2)
    | (go_at_call 51; (with_reducible refine kk3.mono ?_); rintro e w4 ⟨q, rfl, rfl, h4⟩; have f0 := SatL.free (h4.pull 1 : SatL w4 (cl _ _ _ :: _)) 0; have d0 := SatL.cell (h4.pull 1 : SatL w4 (cl _ _ _ :: _)) (i := 0) (v := .int .u32 0) rfl; have h4a := SatL.set (h4.pull 1 : SatL w4 (cl _ _ _ :: _)) (i := 0) (.int .u32 (ui : Int)); have kk4 := k4.out _ _ h4a.swap Gg.out.nx; clear h4 h4a kk3)
    | (go_at_call 51; (with_reducible refine kk4.mono ?_); rintro e w5 ⟨q, rfl, rfl, h5⟩; have f1 := SatL.free (h5.pull 1 : SatL w5 (cl _ _ _ :: _)) 1; have d1 := SatL.cell (h5.pull 1 : SatL w5 (cl _ _ _ :: _)) (i := 1) (v := .int .u32 0) rfl; have h5a := SatL.set (h5.pull 1 : SatL w5 (cl _ _ _ :: _)) (i := 1) (.int .u32 (gi : Int)); have kk5 := k5.out _ _ h5a.swap Gg.out.nx; clear h5 h5a kk4)
    | (go_at_call 51; (with_reducible refine kk5.mono ?_); rintro e w6 ⟨q, rfl, rfl, h6⟩; clear kk5))
  obtain ⟨c7, hc7⟩ : ∃ c7, c7 = w3.heap.size := ⟨_, rfl⟩
  obtain ⟨c4, hc4⟩ : ∃ c4, c4 = w.heap.size := ⟨_, rfl⟩
  obtain ⟨r0, hr0⟩ : ∃ r0, r0 = w.heap.size + 1 := ⟨_, rfl⟩
  have h6' : SatL w6 (RrR (w.heap.size + 1) (.slice a bl c) R :: cl w3.heap.size 25 #[.int .u32 (ui : Int), .int .u32 (gi : Int), .slice none 0 0] :: cl w.heap.size 25 #[.int .u32 0, .int .u32 0, .slice none 0 0] :: L) := h6
  have Gg2 := Gg.out
  clear Gg h6
  rw [← hr0, ← hc7] at h6' ⊢
  rw [← hc4] at h6' Gg2 ⊢
  have Gg := hid Gg2
  clear hc7 hc4 hr0 Gg2
  have hjM : IntKind.i64.wrap (M : Int) = (M : Int) := IntWalk.i64_in _ (by omega)
  have Hz := hid (fun (w' : World) (X : List HP) (h : SatL w' (cl c4 25 #[.int .u32 0, .int .u32 0, .slice none 0 0] :: X)) => (⟨h.cell (i := 0) rfl, h.cell (i := 1) rfl, h.cell (i := 2) rfl⟩ : w'.cell? ⟨c4, 0, none⟩ = some (.int .u32 0) ∧ w'.cell? ⟨c4, 1, none⟩ = some (.int .u32 0) ∧ w'.cell? ⟨c4, 2, none⟩ = some (.slice none 0 0)))
  by_cases hM : M ≤ 16
  case neg =>
    have t1 : (16 : Int) < M := by omega
    have hq := Hq.out
    rw [if_neg (fun h => hM h.2.1)] at hq
    have Hq2 := hid hq
    obtain ⟨z0, z1, z2⟩ := Hz.out _ _ (h6'.pull 2)
    have f0 := SatL.free (h6'.pull 2 : SatL w6 (cl c4 _ _ :: _)) 0
    have f1 := SatL.free (h6'.pull 2 : SatL w6 (cl c4 _ _ :: _)) 1
    have f2 := SatL.free (h6'.pull 2 : SatL w6 (cl c4 _ _ :: _)) 2
    have hZ := SatL.set (SatL.set (SatL.set (h6'.pull 2 : SatL w6 (cl c4 _ _ :: _)) (i := 0) (.int .u32 0)) (i := 1) (.int .u32 0)) (i := 2) (.slice none 0 0)
    have HZ := hid hZ
    clear hq hZ h6' hM
    go_wp2_with fail
    have hZ := HZ.out
    generalize ((w6.setCell ⟨c4, 0, none⟩ (.int .u32 0)).setCell ⟨c4, 1, none⟩ (.int .u32 0)).setCell ⟨c4, 2, none⟩ (.slice none 0 0) = W3 at *
    have r0 := SatL.cell (hZ : SatL W3 (cl c4 _ _ :: _)) (i := 0) rfl
    have r1 := SatL.cell (hZ : SatL W3 (cl c4 _ _ :: _)) (i := 1) rfl
    have r2 := SatL.cell (hZ : SatL W3 (cl c4 _ _ :: _)) (i := 2) rfl
    refine bodyPost_ret (v := .tuple #[.agg #[.int .u32 0, .int .u32 0, .slice none 0 0], .bool false]) (by simp [results, Tryd.results58, go_sem, r0, r1, r2]) rfl (Ret.mk ?_)
    rw [Hq2.out]
    exact ⟨.slice none 0 0, rfl, Sl_nil (SatL.tail (SatL.tail (SatL.tail hZ)))⟩
  have h7 : SatL w6 (RrR r0 (.slice a bl c) (Rdr.many 0 R).2 :: Sl 22 (.slice none 0 0) ((Rdr.many 0 R).1.map u32v) :: cl c7 25 #[.int .u32 (ui : Int), .int .u32 (gi : Int), .slice none 0 0] :: cl c4 25 #[.int .u32 0, .int .u32 0, .slice none 0 0] :: L) := (Sl_nil (T := 22) h6').swap
  have t1 : ¬ (16 : Int) < M := by omega
  have t2 : ¬ 16 < M := by omega
  clear h6' k2 k3 k4 k5
  go_wp2_with fail
  go_loopw [7] (fun i wr => ∃ (j : Nat) (gv : Value), j ≤ M ∧ i = .int .i64 j ∧ SatL wr (RrR r0 (.slice a bl c) (Rdr.many j R).2 :: Sl 22 gv ((Rdr.many j R).1.map u32v) :: cl c7 25 #[.int .u32 (ui : Int), .int .u32 (gi : Int), gv] :: cl c4 25 #[.int .u32 0, .int .u32 0, .slice none 0 0] :: L)) (fun i _ => M - (intOf i).toNat)
  case atStart => exact ⟨0, _, by omega, rfl, h7⟩
  case round =>
    clear h7
    obtain ⟨j, gv, hj, rfl, hs⟩ := hrel
    have hgl : (Rdr.many j R).1.length = j := many_len j R
    have hmb : (Rdr.many j R).2.b = b := by rw [many_b]; exact HRb.out
    by_cases hlt : j < M
    · have hjz : (j : Int) < M := by omega
      have ku := refu32_ok (sat_drew.2 hs) (by rw [hmb]; exact Gg.out.nx.nx)
      have hsn1 : (Rdr.many (j + 1) R).1 = (Rdr.many j R).1 ++ [((Rdr.many j R).2.num 4).1] := rfl
      have hsn2 : (Rdr.many (j + 1) R).2 = ((Rdr.many j R).2.num 4).2 := rfl
      have hxl := Rdr.num_lt (Rdr.many j R).2 4
      rw [show (256 : Nat) ^ 4 = 4294967296 by decide] at hxl
      have S0 : wr.drew.cell? ⟨c7, 2, none⟩ = some gv := SatL.cell (hs.pull 2 : SatL wr (cl c7 _ _ :: _)) (i := 2) rfl
      have Hs1 := hid hsn1
      have Hs2 := hid hsn2
      clear hsn1 hsn2 hmb
      generalize ((Rdr.many j R).2.num 4).1 = x at *
      generalize ((Rdr.many j R).2.num 4).2 = rd at *
      generalize (Rdr.many j R).1 = gs at *
      go_upto_region 13 with fail
      refine GoE.start (fun w' => w'.cell? ⟨c7, 2, none⟩ = some gv) 7 8 rfl (by kernel_rfl) ?_
      refine GoE.take (i := 0) (v := ?_) rfl (by decide) (by kernel_rfl) (by kernel_rfl) (by kernel_rfl) (by kernel_rfl) (fun _ _ _ h => h) (by rfl) ?_ (by assumption) ?_
      rotate_left
      · intro w hSw; (try dsimp only at hSw); go_simp; try (with_reducible rfl)
      try simp only [Act.put, List.setIfInBounds_toArray, List.set_cons_zero, List.set_cons_succ]
      refine GoE.take (i := 1) (v := ?_) rfl (by decide) (by kernel_rfl) (by kernel_rfl) (by kernel_rfl) (by kernel_rfl) (fun _ _ _ h => h) (by rfl) ?_ (by assumption) ?_
      rotate_left
      · intro w hSw; (try dsimp only at hSw); go_simp; try (with_reducible rfl)
      try simp only [Act.put, List.setIfInBounds_toArray, List.set_cons_zero, List.set_cons_succ]
      refine GoE.take (i := 2) (v := ?_) rfl (by decide) (by kernel_rfl) (by kernel_rfl) (by kernel_rfl) (by kernel_rfl) (fun _ _ _ h => h) (by rfl) ?_ (by assumption) ?_
      rotate_left
      · intro w hSw; (try dsimp only at hSw); go_simp; try (with_reducible rfl)
      try simp only [Act.put, List.setIfInBounds_toArray, List.set_cons_zero, List.set_cons_succ]
      refine GoE.one (i := 3) rfl (by kernel_rfl) (fun K hK => ?_)
      go_simp
      go_at_call 51
      (with_reducible refine (ku).mono ?_)
      rintro e w2 ⟨q, rfl, rfl, h2⟩; have S1 := SatL.cell (h2.pull 2 : SatL w2 (cl c7 _ _ :: _)) (i := 2) (v := gv) rfl
      go_wp2_with fail
      refine hK.out _ _ (fun _ => S1) ?_
      clear hK K
      try simp only [Act.put, List.setIfInBounds_toArray, List.set_cons_zero, List.set_cons_succ]
      have h3 := h2.alloc (.cells #[.int .u32 (x : Int)] 22)
      have S2 : (w2.alloc (.cells #[.int .u32 (x : Int)] 22)).cell? ⟨c7, 2, none⟩ = some gv := SatL.cell (h3.pull 3 : SatL _ (cl c7 _ _ :: _)) (i := 2) (v := gv) rfl
      refine GoE.one (i := 4) rfl (by kernel_rfl) (fun K hK => ?_)
      go_simp
      refine hK.out _ _ (fun _ => S2) ?_
      clear hK K
      try simp only [Act.put, List.setIfInBounds_toArray, List.set_cons_zero, List.set_cons_succ]
      refine GoE.one (i := 5) rfl (by kernel_rfl) (fun K hK => ?_)
      refine step_append_sl rfl (.tmp 33) (.tmp 36) rfl elem_u32 rfl (Sl.toK (n := j) (h3.bring [2, 0, 1, 3, 4]) (by rw [List.length_map]; exact hgl)) rfl (SrcOk.ofCl (n := 1) elem_u32.under h3 rfl 1) (by simp [Value.oneCell']) (by omega) (by unfold maxLen; omega) ?_
      intro v4 w4 h4 _
      have h5 := Sl.ofK h4
      obtain ⟨va, vc, rfl, _, _⟩ := Sl.valn h5 (m := j + 1) (by simp [hgl])
      have S3 := SatL.cell (h5.pull 3 : SatL w4 (cl c7 _ _ :: _)) (i := 2) (v := gv) rfl
      have S4 := SatL.free (h5.pull 3 : SatL w4 (cl c7 _ _ :: _)) 2
      have hset := SatL.set (h5.pull 3 : SatL w4 (cl c7 _ _ :: _)) (i := 2) (.slice va (j + 1) vc)
      refine hK.out _ _ (fun _ => S3) ?_
      clear hK K
      try simp only [Act.put, List.setIfInBounds_toArray, List.set_cons_zero, List.set_cons_succ]
      refine GoE.take (i := 6) (v := ?_) rfl (by decide) (by kernel_rfl) (by kernel_rfl) (by kernel_rfl) (by kernel_rfl) (fun _ _ _ h => h) (by rfl) ?_ (by assumption) ?_
      rotate_left
      · intro w hSw; (try dsimp only at hSw); go_simp; try (with_reducible rfl)
      try simp only [Act.put, List.setIfInBounds_toArray, List.set_cons_zero, List.set_cons_succ]
      refine GoE.one (i := 7) rfl (by kernel_rfl) (fun K hK => ?_)
      go_simp
      refine hK.out _ _ (fun h => absurd rfl h) ?_
      clear hK K
      try simp only [Act.put, List.setIfInBounds_toArray, List.set_cons_zero, List.set_cons_succ]
      refine GoE.done (by kernel_rfl) ?_
      have Hset := hid hset
      clear hset S0 S1 S2 S3 S4 h2 h3 h4 h5 ku hs
      go_wp2
      go_roundw
      case rel =>
        refine ⟨j + 1, .slice va (j + 1) vc, by omega, by go_num, ?_⟩
        rw [Hs1.out, Hs2.out, List.map_append]
        exact SatL.tail (Hset.out.bring [2, 3, 1, 0, 4])
      case measure => simp [intOf]; omega
    · have hjM2 : j = M := by omega
      subst hjM2
      have hjj : ¬ j < j := Nat.lt_irrefl j
      obtain ⟨gva, gvc, rfl, _, _⟩ := Sl.valn (hs.pull 1 : SatL wr (Sl _ _ _ :: _)) (m := j) (by simp [hgl])
      have hE2 : sysE b = (Rdr.many j R).2 := by rw [HE.out, if_pos hM]
      have hq2 := Hq.out
      rw [hE2, HC.out] at hq2
      have kL := refleft_ok hs (by rw [hmb]; exact Gg.out.nx.nx)
      obtain ⟨ok7, hs7⟩ := sat_RrR.1 hs
      have cE := SatL.cell (hs7 : SatL wr (cl r0 _ _ :: _)) (i := 2) (v := .int .i64 (Rdr.many j R).2.err) rfl
      have Hy := hid (fun (w' : World) (X : List HP) (h : SatL w' (cl c7 25 #[.int .u32 (ui : Int), .int .u32 (gi : Int), .slice gva j gvc] :: X)) => (⟨h.cell (i := 0) rfl, h.cell (i := 1) rfl, h.cell (i := 2) rfl⟩ : w'.cell? ⟨c7, 0, none⟩ = some (.int .u32 (ui : Int)) ∧ w'.cell? ⟨c7, 1, none⟩ = some (.int .u32 (gi : Int)) ∧ w'.cell? ⟨c7, 2, none⟩ = some (.slice gva j gvc)))
      have Hs := hid hs
      clear HE Hq hs hs7 hE2 hmb
      generalize (Rdr.many j R).2 = rd at *
      generalize (Rdr.many j R).1 = gs at *
      have hpl : rd.p ≤ rd.b.length := ok7.1
      by_cases he : rd.err = 0
      · have t5 : (rd.err == 0) = true := by simp [he]
        have t8 : (rd.err != 0) = false := by simp [he]
        by_cases hl : rd.b.length ≤ rd.p
        · have t6 : ¬ 0 < (rd.b.length : Int) - rd.p := by omega
          have t7 : ¬ rd.p < rd.b.length := by omega
          rw [if_pos ⟨he, hM, hl⟩] at hq2
          have Hq2 := hid hq2
          clear hq2 hl ok7 HC he
          go_wp2_with (first
            | (go_at_call 53; (with_reducible refine kL.mono ?_); rintro e w8 ⟨q, rfl, rfl, h8⟩; have Hs8 := hid h8; obtain ⟨y0, y1, y2⟩ := Hy.out _ _ (h8.pull 2); obtain ⟨z0, z1, z2⟩ := Hz.out _ _ (h8.pull 3); have f0 := SatL.free (h8.pull 3 : SatL w8 (cl c4 _ _ :: _)) 0; have f1 := SatL.free (h8.pull 3 : SatL w8 (cl c4 _ _ :: _)) 1; have f2 := SatL.free (h8.pull 3 : SatL w8 (cl c4 _ _ :: _)) 2; clear h8 kL))
          have hZ := SatL.set (SatL.set (SatL.set (Hs8.out.pull 3 : SatL w8 (cl c4 _ _ :: _)) (i := 0) (.int .u32 (ui : Int))) (i := 1) (.int .u32 (gi : Int))) (i := 2) (.slice gva j gvc)
          generalize ((w8.setCell ⟨c4, 0, none⟩ (.int .u32 (ui : Int))).setCell ⟨c4, 1, none⟩ (.int .u32 (gi : Int))).setCell ⟨c4, 2, none⟩ (.slice gva j gvc) = W3 at *
          have r0 := SatL.cell (hZ : SatL W3 (cl c4 _ _ :: _)) (i := 0) rfl
          have r1 := SatL.cell (hZ : SatL W3 (cl c4 _ _ :: _)) (i := 1) rfl
          have r2 := SatL.cell (hZ : SatL W3 (cl c4 _ _ :: _)) (i := 2) rfl
          refine bodyPost_ret (v := .tuple #[.agg #[.int .u32 (ui : Int), .int .u32 (gi : Int), .slice gva j gvc], .bool true]) (by simp [results, Tryd.results58, go_sem, r0, r1, r2]) rfl (Ret.mk ?_)
          rw [Hq2.out]
          exact ⟨.slice gva j gvc, rfl, SatL.tail (SatL.tail (SatL.tail (hZ.bring [0, 1, 3, 2])))⟩
        · have t6 : 0 < (rd.b.length : Int) - rd.p := by omega
          have t7 : rd.p < rd.b.length := by omega
          rw [if_neg (fun h => hl h.2.2)] at hq2
          have Hq2 := hid hq2
          clear hq2 hl ok7 HC he
          go_wp2_with (first
            | (go_at_call 53; (with_reducible refine kL.mono ?_); rintro e w8 ⟨q, rfl, rfl, h8⟩; have Hs8 := hid h8; obtain ⟨y0, y1, y2⟩ := Hy.out _ _ (h8.pull 2); obtain ⟨z0, z1, z2⟩ := Hz.out _ _ (h8.pull 3); have f0 := SatL.free (h8.pull 3 : SatL w8 (cl c4 _ _ :: _)) 0; have f1 := SatL.free (h8.pull 3 : SatL w8 (cl c4 _ _ :: _)) 1; have f2 := SatL.free (h8.pull 3 : SatL w8 (cl c4 _ _ :: _)) 2; clear h8 kL))
          have hZ := SatL.set (SatL.set (SatL.set (Hs8.out.pull 3 : SatL w8 (cl c4 _ _ :: _)) (i := 0) (.int .u32 0)) (i := 1) (.int .u32 0)) (i := 2) (.slice none 0 0)
          generalize ((w8.setCell ⟨c4, 0, none⟩ (.int .u32 0)).setCell ⟨c4, 1, none⟩ (.int .u32 0)).setCell ⟨c4, 2, none⟩ (.slice none 0 0) = W3 at *
          have r0 := SatL.cell (hZ : SatL W3 (cl c4 _ _ :: _)) (i := 0) rfl
          have r1 := SatL.cell (hZ : SatL W3 (cl c4 _ _ :: _)) (i := 1) rfl
          have r2 := SatL.cell (hZ : SatL W3 (cl c4 _ _ :: _)) (i := 2) rfl
          refine bodyPost_ret (v := .tuple #[.agg #[.int .u32 0, .int .u32 0, .slice none 0 0], .bool false]) (by simp [results, Tryd.results58, go_sem, r0, r1, r2]) rfl (Ret.mk ?_)
          rw [Hq2.out]
          exact ⟨.slice none 0 0, rfl, Sl_nil (SatL.tail (SatL.tail (SatL.tail (SatL.tail (hZ.bring [0, 1, 3, 2])))))⟩
      · have t5 : (rd.err == 0) = false := by simpa using he
        have t6 : (rd.err != 0) = true := by simpa using he
        rw [if_neg (fun h => he h.1)] at hq2
        have Hq2 := hid hq2
        clear hq2 ok7 HC kL he
        obtain ⟨z0, z1, z2⟩ := Hz.out _ _ (Hs.out.pull 3)
        have f0 := SatL.free (Hs.out.pull 3 : SatL wr (cl c4 _ _ :: _)) 0
        have f1 := SatL.free (Hs.out.pull 3 : SatL wr (cl c4 _ _ :: _)) 1
        have f2 := SatL.free (Hs.out.pull 3 : SatL wr (cl c4 _ _ :: _)) 2
        go_wp2_with fail
        have hZ := SatL.set (SatL.set (SatL.set (Hs.out.pull 3 : SatL wr (cl c4 _ _ :: _)) (i := 0) (.int .u32 0)) (i := 1) (.int .u32 0)) (i := 2) (.slice none 0 0)
        generalize ((wr.setCell ⟨c4, 0, none⟩ (.int .u32 0)).setCell ⟨c4, 1, none⟩ (.int .u32 0)).setCell ⟨c4, 2, none⟩ (.slice none 0 0) = W3 at *
        have r0 := SatL.cell (hZ : SatL W3 (cl c4 _ _ :: _)) (i := 0) rfl
        have r1 := SatL.cell (hZ : SatL W3 (cl c4 _ _ :: _)) (i := 1) rfl
        have r2 := SatL.cell (hZ : SatL W3 (cl c4 _ _ :: _)) (i := 2) rfl
        refine bodyPost_ret (v := .tuple #[.agg #[.int .u32 0, .int .u32 0, .slice none 0 0], .bool false]) (by simp [results, Tryd.results58, go_sem, r0, r1, r2]) rfl (Ret.mk ?_)
        rw [Hq2.out]
        exact ⟨.slice none 0 0, rfl, Sl_nil (SatL.tail (SatL.tail (SatL.tail (SatL.tail (hZ.bring [0, 1, 3, 2])))))⟩
end
end Go.Proofs.YtpecmkkcepnpeaaDoor
