/- rpc: read (under way). No condition beside the size. -/
import Derived.Test.YtpecmkkcepnpeaaDoorRpcK
namespace Go.Proofs.YtpecmkkcepnpeaaDoor
set_option linter.unusedVariables false
set_option linter.unusedSimpArgs false
open Go.RowKit
/-- what a call's bytes are: a call; else why not, and what is answered -/
inductive RL where
  | bad (e : Int) (bs : List UInt8)
  | good (c : CallL)
def rd1 (b : List UInt8) : Rdr := ((Rdr.new b).num 4).2
def rd2 (b : List UInt8) : Rdr := ((rd1 b).num 4).2
def rd3 (b : List UInt8) : Rdr := ((rd2 b).num 4).2
def rd4 (b : List UInt8) : Rdr := ((rd3 b).num 4).2
def rd5 (b : List UInt8) : Rdr := ((rd4 b).num 4).2
def rd6 (b : List UInt8) : Rdr := ((rd5 b).num 4).2
def rd7 (b : List UInt8) : Rdr := ((rd6 b).num 4).2
def rd8 (b : List UInt8) : Rdr := ((rd7 b).bytes 400).2
def rd9 (b : List UInt8) : Rdr := ((rd8 b).num 4).2
def rd10 (b : List UInt8) : Rdr := ((rd9 b).bytes 400).2
def rxid (b : List UInt8) : Nat := ((Rdr.new b).num 4).1
def rkind (b : List UInt8) : Nat := ((rd1 b).num 4).1
def rvers (b : List UInt8) : Nat := ((rd2 b).num 4).1
def cprog (b : List UInt8) : Nat := ((rd3 b).num 4).1
def cvers (b : List UInt8) : Nat := ((rd4 b).num 4).1
def cproc (b : List UInt8) : Nat := ((rd5 b).num 4).1
def chow (b : List UInt8) : Nat := ((rd6 b).num 4).1
def ctold (b : List UInt8) : List UInt8 := ((rd7 b).bytes 400).1
def cverf (b : List UInt8) : Nat := ((rd8 b).num 4).1
def cmore (b : List UInt8) : List UInt8 := ((rd9 b).bytes 400).1
def cwhy (b : List UInt8) : Nat := if (credL (chow b) (ctold b)).2 = 0 ∧ (cverf b ≠ 0 ∨ 0 < (cmore b).length) then 3 else (credL (chow b) (ctold b)).2
def readL (b : List UInt8) : RL :=
  if (rd3 b).err ≠ 0 ∨ rkind b ≠ 0 then .bad 31 []
  else if rvers b ≠ 2 then .bad 31 (be4 [rxid b, 1, 1, 0, 2, 2])
  else if (rd10 b).err ≠ 0 then .bad 31 []
  else if cwhy b ≠ 0 then .bad 32 (be4 [rxid b, 1, 1, 1, cwhy b])
  else if (knownL (cprog b) (cvers b) (cproc b)).1 ≠ 0 then .bad (knownL (cprog b) (cvers b) (cproc b)).1 (be4 ([rxid b, 1, 0, 0, 0] ++ (knownL (cprog b) (cvers b) (cproc b)).2))
  else .good ⟨rxid b, cprog b, cvers b, cproc b, (credL (chow b) (ctold b)).1.uid, (credL (chow b) (ctold b)).1.gid, (credL (chow b) (ctold b)).1.gids, b.drop (rd10 b).p⟩
abbrev noCall : Value := .agg #[.int .u32 0, .int .u32 0, .int .u32 0, .int .u32 0, .int .u32 0, .int .u32 0, .slice none 0 0, .slice none 0 0]
def ReadPost (L : List HP) (q : RL) (v : Value) (w : World) : Prop :=
  match q with
  | .bad e bs => ∃ nb, v = .tuple #[noCall, .iface 53 (.pointer (some ⟨nb, 0, none⟩))] ∧ SatL w (WrongR nb e bs :: L)
  | .good c => ∃ gv bv, v = .tuple #[.agg (c.cells gv bv), .nilIface] ∧ SatL w (Sl 22 gv (c.gids.map u32v) :: SlB 5 bv c.body :: L)
def zcells : Array Value := #[.int .u32 0, .int .u32 0, .int .u32 0, .int .u32 0, .int .u32 0, .int .u32 0, .slice none 0 0, .slice none 0 0]
section
variable {w : World} {L : List HP}
theorem bytes_len (r : Rdr) (m : Nat) : (r.bytes (m : Int)).1.length ≤ m := by
  show ((((r.num 4).2.cut (r.num 4).1 (m : Int)).fixed (r.num 4).1).1).length ≤ m
  generalize (r.num 4).1 = N
  generalize (r.num 4).2 = R
  unfold Rdr.cut
  split
  · rename_i h
    have : ({ R with err := 5 } : Rdr).fixed N = ([], { R with err := 5 }) := if_neg (show ¬ (5 : Int) = 0 by decide)
    rw [this]
    exact Nat.zero_le _
  · rename_i h
    unfold Rdr.fixed
    split
    · rename_i h0
      split
      · split
        · show ((R.b.drop R.p).take N).length ≤ m
          have hN : (N : Int) ≤ m := by
            rcases Int.lt_or_le (m : Int) N with q | q
            · exact absurd ⟨h0, q⟩ h
            · exact q
          rw [List.length_take]
          omega
        · exact Nat.zero_le _
      · exact Nat.zero_le _
    · exact Nat.zero_le _
theorem credL_lt (k : Nat) (b : List UInt8) : (credL k b).2 < 4294967296 := by
  unfold credL
  split
  · split
    · show (0 : Nat) < 4294967296; omega
    · show (1 : Nat) < 4294967296; omega
  · split
    · show (5 : Nat) < 4294967296; omega
    · split
      · show (0 : Nat) < 4294967296; omega
      · show (1 : Nat) < 4294967296; omega
theorem SlW.rd {v : Value} {l : List Nat} (h : SatL w (Sl 22 v (l.map u32v) :: L)) : RdW v l w := by
  obtain ⟨a, c, rfl, h1, h2⟩ := Sl.valn h (m := l.length) (by simp)
  rcases Nat.eq_zero_or_pos l.length with h0 | h0
  · have hl : l = [] := List.eq_nil_of_length_eq_zero h0
    subst hl
    rcases Sl.form h with ⟨h3, _⟩ | ⟨b, off, cap, h3, _, _⟩
    · exact .inl ⟨h3, rfl⟩
    · rw [h3]
      injection h3 with e1 e2 e3
      subst e3
      exact .inr ⟨_, c, rfl, h1, h2, fun h0 => absurd h0 (Nat.lt_irrefl 0)⟩
  · obtain ⟨b, off, rfl⟩ := Sl.addr h (by simpa using h0)
    refine .inr ⟨_, c, rfl, h1, h2, fun _ => ⟨b, off, rfl, fun i hi => ?_⟩⟩
    exact Sl.cell h (by rw [List.getElem?_map, List.getElem?_eq_getElem hi]; simp [List.getD, hi])
theorem u32s_one (l : List Nat) : ∀ y ∈ l.map u32v, y.oneCell' = true := by
  intro y hy
  obtain ⟨x, _, rfl⟩ := List.mem_map.1 hy
  rfl
theorem knownL_len (p v c : Nat) : (knownL p v c).2.length ≤ 3 ∧ ∀ u ∈ (knownL p v c).2, u < 4294967296 := by
  unfold knownL
  repeat' split
  all_goals exact ⟨by decide, by decide⟩
/-- s[i:] as a run fact -/
theorem run_from {b off n c i : Nat} (hi : i ≤ n) (hn : n ≤ c) (w : World) : (Instr.sliceAt 27 (.slice (some ⟨b, off, none⟩) n c) (some (.int .i64 (i : Int))) none none).run Tryd.prog w = .ok (.slice (if c = i then some ⟨b, off, none⟩ else some ⟨b, off + i, none⟩) (n - i) (c - i)) w := by
  have hu : Tryd.prog.underlying 27 = some (.slice (Tryd.prog.elem 27)) := by kernel_rfl
  have hz : (sizeOf (Tryd.prog.elem 27)).run Tryd.prog w = .ok 1 w := by kernel_rfl
  rw [run_sliceAt_slice _ _ _ _ _ _ hu, run_slice_l _ _ _ _ _ hu .i64 i (by omega) (by omega), hz]
  simp only [Result.andThen, sliced, Int.toNat_natCast, Option.map_some, Nat.mul_one, addr_add]
theorem Rdr.bytes_b (r : Rdr) (m : Int) : (r.bytes m).2.b = r.b := by
  show (bytesEnd (((r.num 4).2.cut (r.num 4).1 m).fixed (r.num 4).1) r.p).2.b = r.b
  have h1 : ((r.num 4).2.cut (r.num 4).1 m).b = r.b := by
    unfold Rdr.cut
    split
    · exact r.num_b 4
    · exact r.num_b 4
  have h2 : ∀ (R : Rdr) (n : Nat), (R.fixed n).2.b = R.b := by
    intro R n
    unfold Rdr.fixed
    split
    · split
      · split <;> rfl
      · rfl
    · rfl
  unfold bytesEnd
  dsimp only
  split
  · rw [h2, h1]
  · dsimp only; rw [h2, h1]
theorem rd10_b (b : List UInt8) : (rd10 b).b = b := by
  unfold rd10 rd9 rd8 rd7 rd6 rd5 rd4 rd3 rd2 rd1
  simp only [Rdr.num_b, Rdr.bytes_b]
  rfl
/-- s[i:] as a run fact -/
theorem RdB.from {v : Value} {b : List UInt8} {i : Nat} (h : RdB v b w) (hi : i ≤ b.length) : ∃ v', (∀ w', (Instr.sliceAt 27 v (some (.int .i64 (i : Int))) none none).run Tryd.prog w' = .ok v' w') ∧ ∀ w', RdB v b w' → RdB v' (b.drop i) w' := by
  have hu : Tryd.prog.underlying 27 = some (.slice (Tryd.prog.elem 27)) := by kernel_rfl
  rcases h with ⟨rfl, rfl⟩ | ⟨bb, off, c, rfl, h1, h2, h3⟩
  · obtain rfl : i = 0 := by simpa using hi
    refine ⟨.slice none 0 0, fun w' => ?_, fun w' _ => .inl ⟨rfl, rfl⟩⟩
    have hz : (sizeOf (Tryd.prog.elem 27)).run Tryd.prog w' = .ok 1 w' := by kernel_rfl
    rw [run_sliceAt_slice _ _ _ _ _ _ hu, run_slice_l _ _ _ _ _ hu .i64 ((0 : Nat) : Int) (by omega) (by omega), hz]
    rfl
  · refine ⟨_, fun w' => run_from hi h1 w', fun w' h' => ?_⟩
    have := RdB.sub_if h' hi (Nat.le_refl _)
    rwa [List.take_length] at this
theorem set8_sat {c2 : Nat} {X : List HP} {a0 a1 a2 a3 a4 a5 a6 a7 : Value} (h : SatL w (cl c2 30 #[a0, a1, a2, a3, a4, a5, a6, a7] :: X)) (b0 b1 b2 b3 b4 b5 b6 b7 : Value) : SatL ((((((((w.setCell ⟨c2, 0, none⟩ b0).setCell ⟨c2, 1, none⟩ b1).setCell ⟨c2, 2, none⟩ b2).setCell ⟨c2, 3, none⟩ b3).setCell ⟨c2, 4, none⟩ b4).setCell ⟨c2, 5, none⟩ b5).setCell ⟨c2, 6, none⟩ b6).setCell ⟨c2, 7, none⟩ b7) (cl c2 30 #[b0, b1, b2, b3, b4, b5, b6, b7] :: X) := by
  have h0 : SatL (w.setCell ⟨c2, 0, none⟩ b0) (cl c2 30 #[b0, a1, a2, a3, a4, a5, a6, a7] :: X) := SatL.set h (i := 0) b0
  have h1 : SatL ((w.setCell ⟨c2, 0, none⟩ b0).setCell ⟨c2, 1, none⟩ b1) (cl c2 30 #[b0, b1, a2, a3, a4, a5, a6, a7] :: X) := SatL.set h0 (i := 1) b1
  have h2 : SatL (((w.setCell ⟨c2, 0, none⟩ b0).setCell ⟨c2, 1, none⟩ b1).setCell ⟨c2, 2, none⟩ b2) (cl c2 30 #[b0, b1, b2, a3, a4, a5, a6, a7] :: X) := SatL.set h1 (i := 2) b2
  have h3 : SatL ((((w.setCell ⟨c2, 0, none⟩ b0).setCell ⟨c2, 1, none⟩ b1).setCell ⟨c2, 2, none⟩ b2).setCell ⟨c2, 3, none⟩ b3) (cl c2 30 #[b0, b1, b2, b3, a4, a5, a6, a7] :: X) := SatL.set h2 (i := 3) b3
  have h4 : SatL (((((w.setCell ⟨c2, 0, none⟩ b0).setCell ⟨c2, 1, none⟩ b1).setCell ⟨c2, 2, none⟩ b2).setCell ⟨c2, 3, none⟩ b3).setCell ⟨c2, 4, none⟩ b4) (cl c2 30 #[b0, b1, b2, b3, b4, a5, a6, a7] :: X) := SatL.set h3 (i := 4) b4
  have h5 : SatL ((((((w.setCell ⟨c2, 0, none⟩ b0).setCell ⟨c2, 1, none⟩ b1).setCell ⟨c2, 2, none⟩ b2).setCell ⟨c2, 3, none⟩ b3).setCell ⟨c2, 4, none⟩ b4).setCell ⟨c2, 5, none⟩ b5) (cl c2 30 #[b0, b1, b2, b3, b4, b5, a6, a7] :: X) := SatL.set h4 (i := 5) b5
  have h6 : SatL (((((((w.setCell ⟨c2, 0, none⟩ b0).setCell ⟨c2, 1, none⟩ b1).setCell ⟨c2, 2, none⟩ b2).setCell ⟨c2, 3, none⟩ b3).setCell ⟨c2, 4, none⟩ b4).setCell ⟨c2, 5, none⟩ b5).setCell ⟨c2, 6, none⟩ b6) (cl c2 30 #[b0, b1, b2, b3, b4, b5, b6, a7] :: X) := SatL.set h5 (i := 6) b6
  have h7 : SatL ((((((((w.setCell ⟨c2, 0, none⟩ b0).setCell ⟨c2, 1, none⟩ b1).setCell ⟨c2, 2, none⟩ b2).setCell ⟨c2, 3, none⟩ b3).setCell ⟨c2, 4, none⟩ b4).setCell ⟨c2, 5, none⟩ b5).setCell ⟨c2, 6, none⟩ b6).setCell ⟨c2, 7, none⟩ b7) (cl c2 30 #[b0, b1, b2, b3, b4, b5, b6, b7] :: X) := SatL.set h6 (i := 7) b7
  exact h7
theorem cell8g {c2 : Nat} {X : List HP} {a0 a1 a2 a3 a4 a5 a6 a7 : Value} (h : SatL w (cl c2 30 #[a0, a1, a2, a3, a4, a5, a6, a7] :: X)) : w.cell? ⟨c2, 0, none⟩ = some a0 ∧ w.cell? ⟨c2, 1, none⟩ = some a1 ∧ w.cell? ⟨c2, 2, none⟩ = some a2 ∧ w.cell? ⟨c2, 3, none⟩ = some a3 ∧ w.cell? ⟨c2, 4, none⟩ = some a4 ∧ w.cell? ⟨c2, 5, none⟩ = some a5 ∧ w.cell? ⟨c2, 6, none⟩ = some a6 ∧ w.cell? ⟨c2, 7, none⟩ = some a7 :=
  ⟨h.cell (i := 0) rfl, h.cell (i := 1) rfl, h.cell (i := 2) rfl, h.cell (i := 3) rfl, h.cell (i := 4) rfl, h.cell (i := 5) rfl, h.cell (i := 6) rfl, h.cell (i := 7) rfl⟩
theorem setz_sat {c2 : Nat} {X : List HP} (h : SatL w (cl c2 30 #[.int .u32 0, .int .u32 0, .int .u32 0, .int .u32 0, .int .u32 0, .int .u32 0, .slice none 0 0, .slice none 0 0] :: X)) : SatL ((((((((w.setCell ⟨c2, 0, none⟩ (.int .u32 0)).setCell ⟨c2, 1, none⟩ (.int .u32 0)).setCell ⟨c2, 2, none⟩ (.int .u32 0)).setCell ⟨c2, 3, none⟩ (.int .u32 0)).setCell ⟨c2, 4, none⟩ (.int .u32 0)).setCell ⟨c2, 5, none⟩ (.int .u32 0)).setCell ⟨c2, 6, none⟩ (.slice none 0 0)).setCell ⟨c2, 7, none⟩ (.slice none 0 0)) (cl c2 30 #[.int .u32 0, .int .u32 0, .int .u32 0, .int .u32 0, .int .u32 0, .int .u32 0, .slice none 0 0, .slice none 0 0] :: X) := by
  have h0 := SatL.set h (i := 0) (.int .u32 0)
  have h1 := SatL.set h0 (i := 1) (.int .u32 0)
  have h2 := SatL.set h1 (i := 2) (.int .u32 0)
  have h3 := SatL.set h2 (i := 3) (.int .u32 0)
  have h4 := SatL.set h3 (i := 4) (.int .u32 0)
  have h5 := SatL.set h4 (i := 5) (.int .u32 0)
  have h6 := SatL.set h5 (i := 6) (.slice none 0 0)
  have h7 := SatL.set h6 (i := 7) (.slice none 0 0)
  exact h7
theorem cell8 {c2 : Nat} {X : List HP} (h : SatL w (cl c2 30 #[.int .u32 0, .int .u32 0, .int .u32 0, .int .u32 0, .int .u32 0, .int .u32 0, .slice none 0 0, .slice none 0 0] :: X)) : w.cell? ⟨c2, 0, none⟩ = some (.int .u32 0) ∧ w.cell? ⟨c2, 1, none⟩ = some (.int .u32 0) ∧ w.cell? ⟨c2, 2, none⟩ = some (.int .u32 0) ∧ w.cell? ⟨c2, 3, none⟩ = some (.int .u32 0) ∧ w.cell? ⟨c2, 4, none⟩ = some (.int .u32 0) ∧ w.cell? ⟨c2, 5, none⟩ = some (.int .u32 0) ∧ w.cell? ⟨c2, 6, none⟩ = some (.slice none 0 0) ∧ w.cell? ⟨c2, 7, none⟩ = some (.slice none 0 0) :=
  ⟨h.cell (i := 0) rfl, h.cell (i := 1) rfl, h.cell (i := 2) rfl, h.cell (i := 3) rfl, h.cell (i := 4) rfl, h.cell (i := 5) rfl, h.cell (i := 6) rfl, h.cell (i := 7) rfl⟩
set_option maxRecDepth 100000 in
set_option maxHeartbeats 4000000 in
theorem read_ok {v : Value} {b : List UInt8} (hb : b.length ≤ 10000000) (h : SatL w L) (g : Gives L (RdB v b)) :
    Calls Tryd.prog 37 #[v] w (Ret (ReadPost L (readL b))) := by
  obtain ⟨a, c, rfl, g1, g2⟩ := (g w h).valn
  have Ha := h.alloc (.cells #[.int .u32 0, .int .u32 0, .int .u32 0, .int .u32 0, .int .u32 0, .int .u32 0, .slice none 0 0, .slice none 0 0] 30)
  have kN := newreader_ok Ha (fun w' h' => g w' h'.tail) (by omega)
  have hX : rxid b < 4294967296 := Rdr.num_lt _ _
  have hK : rkind b < 4294967296 := Rdr.num_lt _ _
  have hV : rvers b < 4294967296 := Rdr.num_lt _ _
  have U0 := hid (fun (w' : World) (X : List HP) (rb : Nat) (h : SatL w' (RdrR rb (Rdr.new b) :: X)) => (show Calls Tryd.prog 46 #[.pointer (some ⟨rb, 0, none⟩)] w' (Ret fun v w'' => v = .int .u32 (rxid b : Int) ∧ SatL w'' (RdrR rb (rd1 b) :: X)) from u32_ok h))
  have U1 := hid (fun (w' : World) (X : List HP) (rb : Nat) (h : SatL w' (RdrR rb (rd1 b) :: X)) => (show Calls Tryd.prog 46 #[.pointer (some ⟨rb, 0, none⟩)] w' (Ret fun v w'' => v = .int .u32 (rkind b : Int) ∧ SatL w'' (RdrR rb (rd2 b) :: X)) from u32_ok h))
  have U2 := hid (fun (w' : World) (X : List HP) (rb : Nat) (h : SatL w' (RdrR rb (rd2 b) :: X)) => (show Calls Tryd.prog 46 #[.pointer (some ⟨rb, 0, none⟩)] w' (Ret fun v w'' => v = .int .u32 (rvers b : Int) ∧ SatL w'' (RdrR rb (rd3 b) :: X)) from u32_ok h))
  have Gg := hid g
  have hq : readL b = readL b := rfl
  conv at hq => rhs; unfold readL
  have Hq := hid hq
  clear h Ha g hq
  generalize hXX : rxid b = XI at *
  generalize hKK : rkind b = KI at *
  generalize hVV : rvers b = VE at *
  clear hXX hKK hVV
  go_enter Tryd.func37, Tryd.ntmps37
  go_upto_region 4 with (first
    | (go_at_call 45; (with_reducible refine kN.mono ?_); rintro e w1 ⟨q, rfl, rb, rfl, h1⟩; have k1 := U0.out _ _ _ h1; clear h1 kN)
    | (go_at_call 46; (with_reducible refine k1.mono ?_); rintro e w2 ⟨q, rfl, rfl, h2⟩; have k2 := U1.out _ _ _ (h2.alloc (.cells #[.int .u32 (XI : Int), .int .u32 0, .int .u32 0, .int .u32 0, .int .u32 0, .int .u32 0, .slice none 0 0, .slice none 0 0] 30)).swap; clear h2 k1)
    | (go_at_call 46; (with_reducible refine k2.mono ?_); rintro e w3 ⟨q, rfl, rfl, h3⟩; have k3 := U2.out _ _ _ h3; clear h3 k2)
    | (go_at_call 46; (with_reducible refine k3.mono ?_); rintro e w4 ⟨q, rfl, rfl, h4⟩; have kE := err_ok h4; clear k3))
  obtain ⟨c5, hc5⟩ : ∃ c5, c5 = w2.heap.size := ⟨_, rfl⟩
  obtain ⟨c2, hc2⟩ : ∃ c2, c2 = w.heap.size := ⟨_, rfl⟩
  have h5 : SatL w4 (RdrR rb (rd3 b) :: cl w2.heap.size 30 #[.int .u32 (XI : Int), .int .u32 0, .int .u32 0, .int .u32 0, .int .u32 0, .int .u32 0, .slice none 0 0, .slice none 0 0] :: cl w.heap.size 30 #[.int .u32 0, .int .u32 0, .int .u32 0, .int .u32 0, .int .u32 0, .int .u32 0, .slice none 0 0, .slice none 0 0] :: L) := h4
  rw [← hc5, ← hc2] at h5 ⊢
  clear h4 hc5 hc2 U0 U1 U2
  by_cases hA : (rd3 b).err ≠ 0 ∨ KI ≠ 0
  · have hq2 := Hq.out
    rw [if_pos hA] at hq2
    have Hq2 := hid hq2
    clear hq2 Hq
    by_cases he : (rd3 b).err = 0
    · have tk : ((KI : Int) != 0) = true := by rcases hA with h | h; exact absurd he h; simp; omega
      clear hA
      have hw := h5.alloc (.cells #[.int .i64 31, .slice none 0 0] 57)
      have hz : SatL _ (cl c2 30 #[.int .u32 0, .int .u32 0, .int .u32 0, .int .u32 0, .int .u32 0, .int .u32 0, .slice none 0 0, .slice none 0 0] :: _) := hw.pull 3
      obtain ⟨z0, z1, z2, z3, z4, z5, z6, z7⟩ := cell8 hz
      have f0 := SatL.free (hz : SatL _ (cl c2 _ _ :: _)) 0
      have f1 := SatL.free (hz : SatL _ (cl c2 _ _ :: _)) 1
      have f2 := SatL.free (hz : SatL _ (cl c2 _ _ :: _)) 2
      have f3 := SatL.free (hz : SatL _ (cl c2 _ _ :: _)) 3
      have f4 := SatL.free (hz : SatL _ (cl c2 _ _ :: _)) 4
      have f5 := SatL.free (hz : SatL _ (cl c2 _ _ :: _)) 5
      have f6 := SatL.free (hz : SatL _ (cl c2 _ _ :: _)) 6
      have f7 := SatL.free (hz : SatL _ (cl c2 _ _ :: _)) 7
      have hW := setz_sat hz
      have HW := hid hW
      clear hz hW
      go_wp2_with (go_at_call 48; (with_reducible refine kE.mono ?_); rintro e w7 ⟨q, rfl, rfl, rfl⟩)
      have hW := HW.out
      generalize (((((((((w4.alloc (.cells #[.int .i64 31, .slice none 0 0] 57)).setCell ⟨c2, 0, none⟩ (.int .u32 0)).setCell ⟨c2, 1, none⟩ (.int .u32 0)).setCell ⟨c2, 2, none⟩ (.int .u32 0)).setCell ⟨c2, 3, none⟩ (.int .u32 0)).setCell ⟨c2, 4, none⟩ (.int .u32 0)).setCell ⟨c2, 5, none⟩ (.int .u32 0)).setCell ⟨c2, 6, none⟩ (.slice none 0 0)).setCell ⟨c2, 7, none⟩ (.slice none 0 0)) = W3 at hW ⊢
      obtain ⟨r0, r1, r2, r3, r4, r5, r6, r7⟩ := cell8 hW
      refine bodyPost_ret (v := .tuple #[noCall, .iface 53 (.pointer (some ⟨w4.heap.size, 0, none⟩))]) (by simp [results, Tryd.results37, go_sem, r0, r1, r2, r3, r4, r5, r6, r7]) rfl (Ret.mk ?_)
      rw [Hq2.out]
      exact ⟨_, rfl, sat_WrongR.2 ⟨.slice none 0 0, SatL.swap (Sl_nil (SatL.tail (SatL.tail (SatL.bring (SatL.tail hW) [1, 2, 0]))))⟩⟩
    · clear hA
      have hw := h5.alloc (.cells #[.int .i64 31, .slice none 0 0] 57)
      have hz : SatL _ (cl c2 30 #[.int .u32 0, .int .u32 0, .int .u32 0, .int .u32 0, .int .u32 0, .int .u32 0, .slice none 0 0, .slice none 0 0] :: _) := hw.pull 3
      obtain ⟨z0, z1, z2, z3, z4, z5, z6, z7⟩ := cell8 hz
      have f0 := SatL.free (hz : SatL _ (cl c2 _ _ :: _)) 0
      have f1 := SatL.free (hz : SatL _ (cl c2 _ _ :: _)) 1
      have f2 := SatL.free (hz : SatL _ (cl c2 _ _ :: _)) 2
      have f3 := SatL.free (hz : SatL _ (cl c2 _ _ :: _)) 3
      have f4 := SatL.free (hz : SatL _ (cl c2 _ _ :: _)) 4
      have f5 := SatL.free (hz : SatL _ (cl c2 _ _ :: _)) 5
      have f6 := SatL.free (hz : SatL _ (cl c2 _ _ :: _)) 6
      have f7 := SatL.free (hz : SatL _ (cl c2 _ _ :: _)) 7
      have hW := setz_sat hz
      have HW := hid hW
      clear hz hW
      go_wp2_with (go_at_call 48; (with_reducible refine kE.mono ?_); rintro e w7 ⟨q, rfl, rfl, rfl⟩)
      have hW := HW.out
      generalize (((((((((w4.alloc (.cells #[.int .i64 31, .slice none 0 0] 57)).setCell ⟨c2, 0, none⟩ (.int .u32 0)).setCell ⟨c2, 1, none⟩ (.int .u32 0)).setCell ⟨c2, 2, none⟩ (.int .u32 0)).setCell ⟨c2, 3, none⟩ (.int .u32 0)).setCell ⟨c2, 4, none⟩ (.int .u32 0)).setCell ⟨c2, 5, none⟩ (.int .u32 0)).setCell ⟨c2, 6, none⟩ (.slice none 0 0)).setCell ⟨c2, 7, none⟩ (.slice none 0 0)) = W3 at hW ⊢
      obtain ⟨r0, r1, r2, r3, r4, r5, r6, r7⟩ := cell8 hW
      refine bodyPost_ret (v := .tuple #[noCall, .iface 53 (.pointer (some ⟨w4.heap.size, 0, none⟩))]) (by simp [results, Tryd.results37, go_sem, r0, r1, r2, r3, r4, r5, r6, r7]) rfl (Ret.mk ?_)
      rw [Hq2.out]
      exact ⟨_, rfl, sat_WrongR.2 ⟨.slice none 0 0, SatL.swap (Sl_nil (SatL.tail (SatL.tail (SatL.bring (SatL.tail hW) [1, 2, 0]))))⟩⟩
  · have hq2 := Hq.out
    rw [if_neg hA] at hq2
    have Hq2' := hid hq2
    have he : (rd3 b).err = 0 := by omega
    have tk : ((KI : Int) != 0) = false := by simp; omega
    clear hq2 Hq hA
    by_cases hB : VE ≠ 2
    · have hq3 := Hq2'.out
      rw [if_pos hB] at hq3
      have Hq2 := hid hq3
      have tv : ((VE : Int) != 2) = true := by simp; omega
      have x0 := SatL.cell (h5.pull 1 : SatL w4 (cl c5 _ _ :: _)) (i := 0) (v := .int .u32 (XI : Int)) rfl
      have hal := h5.alloc (.cells #[.int .u32 1, .int .u32 0, .int .u32 2, .int .u32 2] 22)
      have kw := wrong_ok (e := 31) (us := [1, 0, 2, 2]) hX (by intro u hu; simp at hu; omega) (by simp) hal (fun w' h' => RdW.ofCl (n := 4) (c := 4) h' rfl rfl (by omega) (by omega))
      clear hq3 Hq2' hB hal
      go_wp2_with (first
        | (go_at_call 48; (with_reducible refine kE.mono ?_); rintro e w7 ⟨q, rfl, rfl, rfl⟩)
        | (go_at_call 66; (with_reducible refine kw.mono ?_); rintro e w9 ⟨q, rfl, nb, rfl, h9⟩; have hz : SatL w9 (cl c2 30 #[.int .u32 0, .int .u32 0, .int .u32 0, .int .u32 0, .int .u32 0, .int .u32 0, .slice none 0 0, .slice none 0 0] :: _) := h9.pull 4; obtain ⟨z0, z1, z2, z3, z4, z5, z6, z7⟩ := cell8 hz; have f0 := SatL.free (hz : SatL _ (cl c2 _ _ :: _)) 0; have f1 := SatL.free (hz : SatL _ (cl c2 _ _ :: _)) 1; have f2 := SatL.free (hz : SatL _ (cl c2 _ _ :: _)) 2; have f3 := SatL.free (hz : SatL _ (cl c2 _ _ :: _)) 3; have f4 := SatL.free (hz : SatL _ (cl c2 _ _ :: _)) 4; have f5 := SatL.free (hz : SatL _ (cl c2 _ _ :: _)) 5; have f6 := SatL.free (hz : SatL _ (cl c2 _ _ :: _)) 6; have f7 := SatL.free (hz : SatL _ (cl c2 _ _ :: _)) 7; have hW := setz_sat hz; have HW := hid hW; clear hz hW h9))
      have hW := HW.out
      generalize ((((((((w9.setCell ⟨c2, 0, none⟩ (.int .u32 0)).setCell ⟨c2, 1, none⟩ (.int .u32 0)).setCell ⟨c2, 2, none⟩ (.int .u32 0)).setCell ⟨c2, 3, none⟩ (.int .u32 0)).setCell ⟨c2, 4, none⟩ (.int .u32 0)).setCell ⟨c2, 5, none⟩ (.int .u32 0)).setCell ⟨c2, 6, none⟩ (.slice none 0 0)).setCell ⟨c2, 7, none⟩ (.slice none 0 0)) = W3 at hW ⊢
      obtain ⟨r0, r1, r2, r3, r4, r5, r6, r7⟩ := cell8 hW
      refine bodyPost_ret (v := .tuple #[noCall, .iface 53 (.pointer (some ⟨nb, 0, none⟩))]) (by simp [results, Tryd.results37, go_sem, r0, r1, r2, r3, r4, r5, r6, r7]) rfl (Ret.mk ?_)
      rw [Hq2.out]
      exact ⟨_, rfl, SatL.tail (SatL.tail (SatL.tail (SatL.bring (SatL.tail hW) [1, 2, 3, 0])))⟩
    · have U3 := hid (fun (w' : World) (X : List HP) (rb : Nat) (h : SatL w' (RdrR rb (rd3 b) :: X)) => (show Calls Tryd.prog 46 #[.pointer (some ⟨rb, 0, none⟩)] w' (Ret fun v w'' => v = .int .u32 (cprog b : Int) ∧ SatL w'' (RdrR rb (rd4 b) :: X)) from u32_ok h))
      have U4 := hid (fun (w' : World) (X : List HP) (rb : Nat) (h : SatL w' (RdrR rb (rd4 b) :: X)) => (show Calls Tryd.prog 46 #[.pointer (some ⟨rb, 0, none⟩)] w' (Ret fun v w'' => v = .int .u32 (cvers b : Int) ∧ SatL w'' (RdrR rb (rd5 b) :: X)) from u32_ok h))
      have U5 := hid (fun (w' : World) (X : List HP) (rb : Nat) (h : SatL w' (RdrR rb (rd5 b) :: X)) => (show Calls Tryd.prog 46 #[.pointer (some ⟨rb, 0, none⟩)] w' (Ret fun v w'' => v = .int .u32 (cproc b : Int) ∧ SatL w'' (RdrR rb (rd6 b) :: X)) from u32_ok h))
      have U6 := hid (fun (w' : World) (X : List HP) (rb : Nat) (h : SatL w' (RdrR rb (rd6 b) :: X)) => (show Calls Tryd.prog 46 #[.pointer (some ⟨rb, 0, none⟩)] w' (Ret fun v w'' => v = .int .u32 (chow b : Int) ∧ SatL w'' (RdrR rb (rd7 b) :: X)) from u32_ok h))
      have B7 := hid (fun (w' : World) (X : List HP) (rb : Nat) (h : SatL w' (RdrR rb (rd7 b) :: X)) => (show Calls Tryd.prog 67 #[.pointer (some ⟨rb, 0, none⟩), .int .i64 400] w' (Ret fun v w'' => SatL w'' (SlB 5 v (ctold b) :: RdrR rb (rd8 b) :: X)) from bytes_ok (most := 400) (by omega) h))
      have U8 := hid (fun (w' : World) (X : List HP) (rb : Nat) (h : SatL w' (RdrR rb (rd8 b) :: X)) => (show Calls Tryd.prog 46 #[.pointer (some ⟨rb, 0, none⟩)] w' (Ret fun v w'' => v = .int .u32 (cverf b : Int) ∧ SatL w'' (RdrR rb (rd9 b) :: X)) from u32_ok h))
      have B9 := hid (fun (w' : World) (X : List HP) (rb : Nat) (h : SatL w' (RdrR rb (rd9 b) :: X)) => (show Calls Tryd.prog 67 #[.pointer (some ⟨rb, 0, none⟩), .int .i64 400] w' (Ret fun v w'' => SatL w'' (SlB 5 v (cmore b) :: RdrR rb (rd10 b) :: X)) from bytes_ok (most := 400) (by omega) h))
      have hP1 : cprog b < 4294967296 := Rdr.num_lt _ _
      have hP2 : cvers b < 4294967296 := Rdr.num_lt _ _
      have hP3 : cproc b < 4294967296 := Rdr.num_lt _ _
      have hP4 : chow b < 4294967296 := Rdr.num_lt _ _
      have hP5 : cverf b < 4294967296 := Rdr.num_lt _ _
      have hq3 := Hq2'.out
      rw [if_neg hB] at hq3
      have Hq3 := hid hq3
      have tv : ((VE : Int) != 2) = false := by simp; omega
      clear hq3 Hq2' hB
      unfold cwhy at Hq3
      have hTO : (ctold b).length ≤ 1000 := Nat.le_trans (bytes_len (rd7 b) 400) (by omega)
      generalize cprog b = PR at *
      generalize cvers b = VR at *
      generalize cproc b = PO at *
      generalize chow b = HO at *
      generalize cverf b = VF at *
      generalize ctold b = TO at *
      generalize cmore b = MO at *
      have k3 := U3.out _ _ _ h5
      go_upto_region 13 with (first
        | (go_at_call 48; (with_reducible refine kE.mono ?_); rintro e w7 ⟨q, rfl, rfl, rfl⟩)
        | (go_at_call 46; (with_reducible refine k3.mono ?_); rintro e w5 ⟨q, rfl, rfl, h6⟩; have k4 := U4.out _ _ _ h6; clear h6 k3 kE)
        | (go_at_call 46; (with_reducible refine k4.mono ?_); rintro e w6 ⟨q, rfl, rfl, h6⟩; have k5 := U5.out _ _ _ h6; clear h6 k4)
        | (go_at_call 46; (with_reducible refine k5.mono ?_); rintro e w7 ⟨q, rfl, rfl, h6⟩; have x1 := SatL.cell (h6.pull 1 : SatL w7 (cl c5 _ _ :: _)) (i := 1) rfl; have x2 := SatL.cell (h6.pull 1 : SatL w7 (cl c5 _ _ :: _)) (i := 2) rfl; have x3 := SatL.cell (h6.pull 1 : SatL w7 (cl c5 _ _ :: _)) (i := 3) rfl; have g1 := SatL.free (h6.pull 1 : SatL w7 (cl c5 _ _ :: _)) 1; have g2 := SatL.free (h6.pull 1 : SatL w7 (cl c5 _ _ :: _)) 2; have g3 := SatL.free (h6.pull 1 : SatL w7 (cl c5 _ _ :: _)) 3; have hs7 := SatL.set (SatL.set (SatL.set (h6.pull 1 : SatL w7 (cl c5 _ _ :: _)) (i := 1) (.int .u32 (PR : Int))) (i := 2) (.int .u32 (VR : Int))) (i := 3) (.int .u32 (PO : Int)); have k6 := U6.out _ _ _ (SatL.swap hs7); clear h6 k5 hs7)
        | (go_at_call 46; (with_reducible refine k6.mono ?_); rintro e w8 ⟨q, rfl, rfl, h6⟩; have k7 := B7.out _ _ _ h6; clear h6 k6 x1 x2 x3 g1 g2 g3)
        | (go_at_call 67; (with_reducible refine k7.mono ?_); rintro e w9 ⟨q, rfl, h6⟩; obtain ⟨ta, tc, rfl, _, _⟩ := Sl.valn h6 (m := TO.length) (by simp); have k8 := U8.out _ _ _ (SatL.swap h6); clear h6 k7)
        | (go_at_call 46; (with_reducible refine k8.mono ?_); rintro e w10 ⟨q, rfl, rfl, h6⟩; have k9 := B9.out _ _ _ h6; clear h6 k8)
        | (go_at_call 67; (with_reducible refine k9.mono ?_); rintro e w11 ⟨q, rfl, h6⟩; obtain ⟨ma, mc, rfl, _, _⟩ := Sl.valn h6 (m := MO.length) (by simp); clear k9))
      have h7 : SatL w11 (SlB 5 (.slice ma MO.length mc) MO :: RdrR rb (rd10 b) :: SlB 5 (.slice ta TO.length tc) TO :: cl c5 30 #[.int .u32 (XI : Int), .int .u32 (PR : Int), .int .u32 (VR : Int), .int .u32 (PO : Int), .int .u32 0, .int .u32 0, .slice none 0 0, .slice none 0 0] :: cl c2 30 #[.int .u32 0, .int .u32 0, .int .u32 0, .int .u32 0, .int .u32 0, .int .u32 0, .slice none 0 0, .slice none 0 0] :: L) := h6
      clear h6 h5 U3 U4 U5 U6 U8 B7 B9
      have kE := err_ok (SatL.pull h7 1 : SatL w11 (RdrR _ _ :: _))
      by_cases hE10 : (rd10 b).err ≠ 0
      · have hq4 := Hq3.out
        rw [if_pos hE10] at hq4
        have Hq2 := hid hq4
        clear hq4 Hq3
        have hw := h7.alloc (.cells #[.int .i64 31, .slice none 0 0] 57)
        have hz : SatL _ (cl c2 30 #[.int .u32 0, .int .u32 0, .int .u32 0, .int .u32 0, .int .u32 0, .int .u32 0, .slice none 0 0, .slice none 0 0] :: _) := hw.pull 5
        obtain ⟨z0, z1, z2, z3, z4, z5, z6, z7⟩ := cell8 hz
        have f0 := SatL.free (hz : SatL _ (cl c2 _ _ :: _)) 0
        have f1 := SatL.free (hz : SatL _ (cl c2 _ _ :: _)) 1
        have f2 := SatL.free (hz : SatL _ (cl c2 _ _ :: _)) 2
        have f3 := SatL.free (hz : SatL _ (cl c2 _ _ :: _)) 3
        have f4 := SatL.free (hz : SatL _ (cl c2 _ _ :: _)) 4
        have f5 := SatL.free (hz : SatL _ (cl c2 _ _ :: _)) 5
        have f6 := SatL.free (hz : SatL _ (cl c2 _ _ :: _)) 6
        have f7 := SatL.free (hz : SatL _ (cl c2 _ _ :: _)) 7
        have hW := setz_sat hz
        have HW := hid hW
        clear hz hW
        go_wp2_with (go_at_call 48; (with_reducible refine kE.mono ?_); rintro e w7 ⟨q, rfl, rfl, rfl⟩)
        have hW := HW.out
        generalize (((((((((w11.alloc (.cells #[.int .i64 31, .slice none 0 0] 57)).setCell ⟨c2, 0, none⟩ (.int .u32 0)).setCell ⟨c2, 1, none⟩ (.int .u32 0)).setCell ⟨c2, 2, none⟩ (.int .u32 0)).setCell ⟨c2, 3, none⟩ (.int .u32 0)).setCell ⟨c2, 4, none⟩ (.int .u32 0)).setCell ⟨c2, 5, none⟩ (.int .u32 0)).setCell ⟨c2, 6, none⟩ (.slice none 0 0)).setCell ⟨c2, 7, none⟩ (.slice none 0 0)) = W3 at hW ⊢
        obtain ⟨r0, r1, r2, r3, r4, r5, r6, r7⟩ := cell8 hW
        refine bodyPost_ret (v := .tuple #[noCall, .iface 53 (.pointer (some ⟨w11.heap.size, 0, none⟩))]) (by simp [results, Tryd.results37, go_sem, r0, r1, r2, r3, r4, r5, r6, r7]) rfl (Ret.mk ?_)
        rw [Hq2.out]
        exact ⟨_, rfl, sat_WrongR.2 ⟨.slice none 0 0, SatL.swap (Sl_nil (SatL.tail (SatL.tail (SatL.tail (SatL.tail (SatL.bring (SatL.tail hW) [1, 2, 3, 4, 0]))))))⟩⟩
      · have hq4 := Hq3.out
        rw [if_neg hE10] at hq4
        have Hq4 := hid hq4
        have hE11 : (rd10 b).err = 0 := by omega
        clear hq4 Hq3 hE10
        have hcl := credL_lt HO TO
        have kC := cred_ok hP4 hTO h7 (fun w' h' => SlB.rd (SatL.tail (SatL.tail h')))
        generalize hCR : credL HO TO = CR at *
        clear hCR
        obtain ⟨⟨UI, GI, GS⟩, WY⟩ := CR
        dsimp only at hcl Hq4
        go_upto_region 16 with (first
          | (go_at_call 48; (with_reducible refine kE.mono ?_); rintro e w7 ⟨q, rfl, rfl, rfl⟩)
          | (go_at_call 68; (with_reducible refine kC.mono ?_); rintro e w12 ⟨q, rfl, gv, rfl, h8⟩; obtain ⟨ga, gc, rfl, _, _⟩ := Sl.valn h8 (m := GS.length) (by simp)))
        have h9 := h8.alloc (.cells #[.int .u32 (UI : Int), .int .u32 (GI : Int), .slice ga GS.length gc] 25)
        generalize w12.alloc (.cells #[.int .u32 (UI : Int), .int .u32 (GI : Int), .slice ga GS.length gc] 25) = w13 at h9 ⊢
        generalize w12.heap.size = c12 at h9 ⊢
        have x0 := SatL.cell (h9.pull 5 : SatL _ (cl c5 _ _ :: _)) (i := 0) (v := .int .u32 (XI : Int)) rfl
        by_cases hW0 : WY = 0
        · have ty : ((WY : Int) == 0) = true := by simp [hW0]
          by_cases hF : VF = 0
          · have tf : ((VF : Int) != 0) = false := by simp [hF]
            by_cases hM : 0 < MO.length
            · have hMz : (0 : Int) < MO.length := by omega
              have hq5 := Hq4.out
              rw [if_pos (c := WY = 0 ∧ (VF ≠ 0 ∨ 0 < MO.length)) ⟨hW0, .inr hM⟩, if_pos (by omega)] at hq5
              have Hq2 := hid hq5
              have hal := h9.alloc (.cells #[.int .u32 1, .int .u32 1, .int .u32 3] 22)
              have kw := wrong_ok (e := 32) (us := [1, 1, 3]) hX (by intro u hu; simp at hu; omega) (by simp) hal (fun w' h' => RdW.ofCl (n := 3) (c := 3) h' rfl rfl (by omega) (by omega))
              clear hq5 Hq4 hal hW0 hF
              go_wp2_with (go_at_call 66; (with_reducible refine kw.mono ?_); rintro e w15 ⟨q, rfl, nb, rfl, h9⟩; have hz : SatL w15 (cl c2 30 #[.int .u32 0, .int .u32 0, .int .u32 0, .int .u32 0, .int .u32 0, .int .u32 0, .slice none 0 0, .slice none 0 0] :: _) := h9.pull 8; obtain ⟨z0, z1, z2, z3, z4, z5, z6, z7⟩ := cell8 hz; have f0 := SatL.free (hz : SatL _ (cl c2 _ _ :: _)) 0; have f1 := SatL.free (hz : SatL _ (cl c2 _ _ :: _)) 1; have f2 := SatL.free (hz : SatL _ (cl c2 _ _ :: _)) 2; have f3 := SatL.free (hz : SatL _ (cl c2 _ _ :: _)) 3; have f4 := SatL.free (hz : SatL _ (cl c2 _ _ :: _)) 4; have f5 := SatL.free (hz : SatL _ (cl c2 _ _ :: _)) 5; have f6 := SatL.free (hz : SatL _ (cl c2 _ _ :: _)) 6; have f7 := SatL.free (hz : SatL _ (cl c2 _ _ :: _)) 7; have hW := setz_sat hz; have HW := hid hW; clear hz hW h9)
              have hW := HW.out
              generalize ((((((((w15.setCell ⟨c2, 0, none⟩ (.int .u32 0)).setCell ⟨c2, 1, none⟩ (.int .u32 0)).setCell ⟨c2, 2, none⟩ (.int .u32 0)).setCell ⟨c2, 3, none⟩ (.int .u32 0)).setCell ⟨c2, 4, none⟩ (.int .u32 0)).setCell ⟨c2, 5, none⟩ (.int .u32 0)).setCell ⟨c2, 6, none⟩ (.slice none 0 0)).setCell ⟨c2, 7, none⟩ (.slice none 0 0)) = W3 at hW ⊢
              obtain ⟨r0, r1, r2, r3, r4, r5, r6, r7⟩ := cell8 hW
              refine bodyPost_ret (v := .tuple #[noCall, .iface 53 (.pointer (some ⟨nb, 0, none⟩))]) (by simp [results, Tryd.results37, go_sem, r0, r1, r2, r3, r4, r5, r6, r7]) rfl (Ret.mk ?_)
              rw [Hq2.out]
              exact ⟨_, rfl, SatL.tail (SatL.tail (SatL.tail (SatL.tail (SatL.tail (SatL.tail (SatL.tail (SatL.bring (SatL.tail hW) [1, 2, 3, 4, 5, 6, 7, 0])))))))⟩
            · have hMz : ¬ (0 : Int) < MO.length := by omega
              have hq5 := Hq4.out
              rw [if_neg (c := WY = 0 ∧ (VF ≠ 0 ∨ 0 < MO.length)) (by omega), if_neg (by omega)] at hq5
              have Hq5 := hid hq5
              clear hq5 Hq4
              have x1 := SatL.cell (h9.pull 5 : SatL _ (cl c5 _ _ :: _)) (i := 1) (v := .int .u32 (PR : Int)) rfl
              have x2 := SatL.cell (h9.pull 5 : SatL _ (cl c5 _ _ :: _)) (i := 2) (v := .int .u32 (VR : Int)) rfl
              have x3 := SatL.cell (h9.pull 5 : SatL _ (cl c5 _ _ :: _)) (i := 3) (v := .int .u32 (PO : Int)) rfl
              have x4 := SatL.cell (h9.pull 5 : SatL _ (cl c5 _ _ :: _)) (i := 4) (v := .int .u32 0) rfl
              have x5 := SatL.cell (h9.pull 5 : SatL _ (cl c5 _ _ :: _)) (i := 5) (v := .int .u32 0) rfl
              have x6 := SatL.cell (h9.pull 5 : SatL _ (cl c5 _ _ :: _)) (i := 6) (v := .slice none 0 0) rfl
              have x7 := SatL.cell (h9.pull 5 : SatL _ (cl c5 _ _ :: _)) (i := 7) (v := .slice none 0 0) rfl
              have kK := rknown_ok (xid := XI) (prog := PR) (vers := VR) (proc := PO) (uid := 0) (gid := 0) (gv := .slice none 0 0) (bv := .slice none 0 0) ⟨hX, hP1, hP2, hP3, by omega, by omega⟩ ⟨_, _, _, rfl⟩ ⟨_, _, _, rfl⟩ h9
              rw [show ((0 : Nat) : Int) = 0 from rfl] at kK
              have ty2 : ((WY : Int) != 0) = false := by simp [hW0]
              have hKL := knownL_len PR VR PO
              generalize knownL PR VR PO = KR at *
              obtain ⟨KE, KL⟩ := KR
              dsimp only at Hq5 hKL
              clear hW0 hF
              go_upto_region 21 with (go_at_call 69; (with_reducible refine kK.mono ?_); rintro e w16 ⟨q, rfl, lv, rfl, h10⟩)
              obtain ⟨ln, hln⟩ : ∃ ln, ln = KL.length := ⟨_, rfl⟩
              obtain ⟨la, lc, rfl, _, _⟩ := Sl.valn h10 (m := ln) (by simp [hln])
              have Hln := hid hln
              clear hln
              by_cases hKE : KE ≠ 0
              · have hq6 := Hq5.out
                rw [if_pos hKE] at hq6
                have Hq2 := hid hq6
                have tke : (KE != 0) = true := by simpa using hKE
                clear hq6 Hq5
                go_upto_region 22 with fail
                have hd := sat_drew.2 h10
                have S0 := SatL.cell (hd.pull 6 : SatL w16.drew (cl c5 _ _ :: _)) (i := 0) (v := .int .u32 (XI : Int)) rfl
                have h11 := Sl_u32s (l := [0, 0, 0]) (cs := #[.int .u32 0, .int .u32 0, .int .u32 0]) (nb := w16.heap.size) (n := 3) rfl rfl rfl (by omega) h10
                have S1 := SatL.cell (h11.pull 7 : SatL _ (cl c5 _ _ :: _)) (i := 0) (v := .int .u32 (XI : Int)) rfl
                refine GoE.start (fun w' => w'.cell? ⟨c5, 0, none⟩ = some (.int .u32 (XI : Int))) 9 10 rfl (by kernel_rfl) ?_
                refine GoE.take (i := 0) (v := ?_) rfl (by decide) (by kernel_rfl) (by kernel_rfl) (by kernel_rfl) (by kernel_rfl) (fun _ _ _ h => h) (by rfl) ?_ (by assumption) ?_
                rotate_left
                · intro w hSw; (try dsimp only at hSw); go_simp; try (with_reducible rfl)
                try simp only [Act.put, List.setIfInBounds_toArray, List.set_cons_zero, List.set_cons_succ]
                refine GoE.take (i := 1) (v := ?_) rfl (by decide) (by kernel_rfl) (by kernel_rfl) (by kernel_rfl) (by kernel_rfl) (fun _ _ _ h => h) (by rfl) ?_ (by assumption) ?_
                rotate_left
                · intro w hSw; (try dsimp only at hSw); go_simp; try (with_reducible rfl)
                try simp only [Act.put, List.setIfInBounds_toArray, List.set_cons_zero, List.set_cons_succ]
                refine GoE.take (i := 2) (v := ?_) rfl (by decide) (by kernel_rfl) (by kernel_rfl) (by kernel_rfl) (by kernel_rfl) (fun _ _ _ h => h) (by rfl) ?_ (by assumption) ?_
                rotate_left
                · intro w hSw; (try dsimp only at hSw); go_simp; try (with_reducible rfl)
                try simp only [Act.put, List.setIfInBounds_toArray, List.set_cons_zero, List.set_cons_succ]
                refine GoE.take (i := 5) (v := ?_) rfl (by decide) (by kernel_rfl) (by kernel_rfl) (by kernel_rfl) (by kernel_rfl) (fun _ _ _ h => h) (by rfl) ?_ (by assumption) ?_
                rotate_left
                · intro w hSw; (try dsimp only at hSw); go_simp; try (with_reducible rfl)
                try simp only [Act.put, List.setIfInBounds_toArray, List.set_cons_zero, List.set_cons_succ]
                refine GoE.take (i := 3) (v := ?_) rfl (by decide) (by kernel_rfl) (by kernel_rfl) (by kernel_rfl) (by kernel_rfl) (fun _ _ _ h => h) (by rfl) ?_ (by assumption) ?_
                rotate_left
                · intro w hSw; (try dsimp only at hSw); go_simp; try (with_reducible rfl)
                try simp only [Act.put, List.setIfInBounds_toArray, List.set_cons_zero, List.set_cons_succ]
                refine GoE.one (i := 4) rfl (by kernel_rfl) (fun K hK => ?_)
                go_simp
                refine hK.out _ _ (fun _ => S1) ?_
                clear hK K
                try simp only [Act.put, List.setIfInBounds_toArray, List.set_cons_zero, List.set_cons_succ]
                refine GoE.one (i := 6) rfl (by kernel_rfl) (fun K hK => ?_)
                refine step_append_sl rfl (.tmp 105) (.tmp 106) rfl elem_u32 rfl (Sl.toK (n := 3) h11 (by simp)) rfl (SrcOk.ofSl elem_u32.under h11.tail) (fun y hy => u32s_one KL y hy) (by rw [List.length_map]; omega) (by rw [List.length_map]; unfold maxLen; omega) ?_
                intro v17 w17 h12 _
                have h13 := Sl.ofK h12
                rw [← List.map_append] at h13
                obtain ⟨vn, hvn⟩ : ∃ vn, (([0, 0, 0] ++ KL).map u32v).length = vn := ⟨_, rfl⟩
                obtain ⟨va, vc, rfl, _, _⟩ := Sl.valn h13 (m := vn) hvn
                clear hvn
                have S2 := SatL.cell (h13.pull 7 : SatL w17 (cl c5 _ _ :: _)) (i := 0) (v := .int .u32 (XI : Int)) rfl
                have kw := wrong_ok (e := KE) (us := [0, 0, 0] ++ KL) hX (by intro u hu; rcases List.mem_append.1 hu with h | h; simp at h; omega; exact hKL.2 u h) (by simp; omega) h13 (fun w' h' => SlW.rd h')
                refine hK.out _ _ (fun _ => S2) ?_
                clear hK K
                try simp only [Act.put, List.setIfInBounds_toArray, List.set_cons_zero, List.set_cons_succ]
                refine GoE.one (i := 7) rfl (by kernel_rfl) (fun K hK => ?_)
                go_simp
                go_at_call 66
                (with_reducible refine (kw).mono ?_)
                rintro e w18 ⟨q, rfl, nb, rfl, h14⟩; have S3 := SatL.cell (h14.pull 8 : SatL w18 (cl c5 _ _ :: _)) (i := 0) (v := .int .u32 (XI : Int)) rfl
                go_wp2_with fail
                refine hK.out _ _ (fun _ => S3) ?_
                clear hK K
                try simp only [Act.put, List.setIfInBounds_toArray, List.set_cons_zero, List.set_cons_succ]
                have hz : SatL w18 (cl c2 30 #[.int .u32 0, .int .u32 0, .int .u32 0, .int .u32 0, .int .u32 0, .int .u32 0, .slice none 0 0, .slice none 0 0] :: _) := h14.pull 9
                obtain ⟨z0, z1, z2, z3, z4, z5, z6, z7⟩ := cell8 hz
                have f0 := SatL.free (hz : SatL _ (cl c2 _ _ :: _)) 0
                have f1 := SatL.free (hz : SatL _ (cl c2 _ _ :: _)) 1
                have f2 := SatL.free (hz : SatL _ (cl c2 _ _ :: _)) 2
                have f3 := SatL.free (hz : SatL _ (cl c2 _ _ :: _)) 3
                have f4 := SatL.free (hz : SatL _ (cl c2 _ _ :: _)) 4
                have f5 := SatL.free (hz : SatL _ (cl c2 _ _ :: _)) 5
                have f6 := SatL.free (hz : SatL _ (cl c2 _ _ :: _)) 6
                have f7 := SatL.free (hz : SatL _ (cl c2 _ _ :: _)) 7
                have hW := setz_sat hz
                have S4 := SatL.cell (hW.pull 9 : SatL _ (cl c5 _ _ :: _)) (i := 0) (v := .int .u32 (XI : Int)) rfl
                refine GoE.one (i := 8) rfl (by kernel_rfl) (fun K hK => ?_)
                go_simp
                refine hK.out _ _ (fun _ => S4) ?_
                clear hK K
                try simp only [Act.put, List.setIfInBounds_toArray, List.set_cons_zero, List.set_cons_succ]
                refine GoE.one (i := 9) rfl (by kernel_rfl) (fun K hK => ?_)
                go_simp
                refine hK.out _ _ (fun h => absurd rfl h) ?_
                clear hK K
                try simp only [Act.put, List.setIfInBounds_toArray, List.set_cons_zero, List.set_cons_succ]
                refine GoE.done (by kernel_rfl) ?_
                have HW := hid hW
                clear hW hz
                go_wp2_with fail
                have hW := HW.out
                generalize ((((((((w18.setCell ⟨c2, 0, none⟩ (.int .u32 0)).setCell ⟨c2, 1, none⟩ (.int .u32 0)).setCell ⟨c2, 2, none⟩ (.int .u32 0)).setCell ⟨c2, 3, none⟩ (.int .u32 0)).setCell ⟨c2, 4, none⟩ (.int .u32 0)).setCell ⟨c2, 5, none⟩ (.int .u32 0)).setCell ⟨c2, 6, none⟩ (.slice none 0 0)).setCell ⟨c2, 7, none⟩ (.slice none 0 0)) = W3 at hW ⊢
                obtain ⟨r0, r1, r2, r3, r4, r5, r6, r7⟩ := cell8 hW
                refine bodyPost_ret (v := .tuple #[noCall, .iface 53 (.pointer (some ⟨nb, 0, none⟩))]) (by simp [results, Tryd.results37, go_sem, r0, r1, r2, r3, r4, r5, r6, r7]) rfl (Ret.mk ?_)
                rw [Hq2.out]
                exact ⟨_, rfl, SatL.tail (SatL.tail (SatL.tail (SatL.tail (SatL.tail (SatL.tail (SatL.tail (SatL.tail (SatL.bring (SatL.tail hW) [1, 2, 3, 4, 5, 6, 7, 8, 0]))))))))⟩
              · have hq6 := Hq5.out
                rw [if_neg hKE] at hq6
                have Hq2 := hid hq6
                have tke : (KE != 0) = false := by simpa using hKE
                clear hq6 Hq5 hKE
                obtain ⟨y0, y1, y2⟩ : w16.cell? ⟨c12, 0, none⟩ = some (.int .u32 (UI : Int)) ∧ w16.cell? ⟨c12, 1, none⟩ = some (.int .u32 (GI : Int)) ∧ w16.cell? ⟨c12, 2, none⟩ = some (.slice ga GS.length gc) := ⟨SatL.cell (h10.pull 1 : SatL w16 (cl c12 _ _ :: _)) (i := 0) rfl, SatL.cell (h10.pull 1 : SatL w16 (cl c12 _ _ :: _)) (i := 1) rfl, SatL.cell (h10.pull 1 : SatL w16 (cl c12 _ _ :: _)) (i := 2) rfl⟩
                have hc5 : SatL w16 (cl c5 30 #[.int .u32 (XI : Int), .int .u32 (PR : Int), .int .u32 (VR : Int), .int .u32 (PO : Int), .int .u32 0, .int .u32 0, .slice none 0 0, .slice none 0 0] :: _) := h10.pull 6
                have u4 := SatL.cell hc5 (i := 4) rfl
                have u5 := SatL.cell hc5 (i := 5) rfl
                have u6 := SatL.cell hc5 (i := 6) rfl
                have f4 := SatL.free hc5 4
                have f5 := SatL.free hc5 5
                have f6 := SatL.free hc5 6
                have h11 := SatL.set (SatL.set (SatL.set hc5 (i := 4) (.int .u32 (UI : Int))) (i := 5) (.int .u32 (GI : Int))) (i := 6) (.slice ga GS.length gc)
                have H11 := hid h11
                clear h11 hc5
                go_upto_region 24 with fail
                have h11 := H11.out
                generalize (((w16.setCell ⟨c5, 4, none⟩ (.int .u32 (UI : Int))).setCell ⟨c5, 5, none⟩ (.int .u32 (GI : Int))).setCell ⟨c5, 6, none⟩ (.slice ga GS.length gc)) = w17 at h11 ⊢
                have h12 : SatL w17 (cl c5 30 #[.int .u32 (XI : Int), .int .u32 (PR : Int), .int .u32 (VR : Int), .int .u32 (PO : Int), .int .u32 (UI : Int), .int .u32 (GI : Int), .slice ga GS.length gc, .slice none 0 0] :: _) := h11
                have kA := at_ok (h12.pull 5 : SatL w17 (RdrR rb (rd10 b) :: _))
                have hp : (rd10 b).p ≤ b.length := by
                  have := (rdr_bytes (h12.pull 5 : SatL w17 (RdrR rb (rd10 b) :: _))).1
                  rwa [rd10_b] at this
                have hrb := Gg.out w17 (SatL.tail (SatL.tail (SatL.tail (SatL.tail (SatL.tail (SatL.tail (SatL.tail (SatL.tail h12))))))))
                obtain ⟨sv, hsv, gsv⟩ := hrb.from hp
                have hsb := gsv w17 hrb
                have hx := SrcOk.ofRdB hsb
                have hdl : (b.drop (rd10 b).p).length = b.length - (rd10 b).p := List.length_drop
                have hbb : (0 + (b.drop (rd10 b).p).length) * 1 ≤ 140737488355328 := by omega
                have h63 : 0 + (b.drop (rd10 b).p).length ≤ maxLen := by unfold maxLen; omega
                have hK := Sl.toK (n := 0) (Sl_nil (T := 5) h12) rfl
                obtain ⟨sa, sc, rfl, _, _⟩ := hsb.valn
                have Hdl := hid hdl
                have Hgs := hid gsv
                clear h11 H11 hp hrb hsb gsv hdl h10 h9 h8 h7 y0 y1 y2 u4 u5 u6 f4 f5 f6 x0 x1 x2 x3 x4 x5 x6 x7 kK kC kE
                generalize hDD : b.drop (rd10 b).p = DD at *
                have HDD := hid hDD
                clear hDD
                go_upto_region 25 with (first
                  | (go_at_call 47; (with_reducible refine kA.mono ?_); rintro e w18 ⟨q, rfl, rfl, rfl⟩)
                  | (at_builtin; refine wpList_append_sl rfl (.const (.slice none 0 0)) (.tmp 114) rfl elem_byte rfl hK rfl hx (bvs_one _) hbb h63 ?_; intro v19 w19 h13 _; have h14 := Sl.ofK h13; rw [List.nil_append] at h14; obtain ⟨bn, hbn⟩ : ∃ bn, (bvs DD).length = bn := ⟨_, rfl⟩; obtain ⟨ba, bc, rfl, _, _⟩ := Sl.valn h14 (m := bn) hbn; clear hbn; have h15 : SatL w19 (cl c5 _ _ :: _) := h14.pull 1; have f7 := SatL.free h15 7; have u7 := SatL.cell h15 (i := 7) (v := .slice none 0 0) rfl; have h16 := SatL.set h15 (i := 7) (.slice ba bn bc); have H16 := hid h16; clear h15 h16))
                have h17 := H16.out
                generalize w19.setCell ⟨c5, 7, none⟩ (.slice ba bn bc) = w20 at h17 ⊢
                have h18 : SatL w20 (cl c5 30 #[.int .u32 (XI : Int), .int .u32 (PR : Int), .int .u32 (VR : Int), .int .u32 (PO : Int), .int .u32 (UI : Int), .int .u32 (GI : Int), .slice ga GS.length gc, .slice ba bn bc] :: _) := h17
                obtain ⟨x0, x1, x2, x3, x4, x5, x6, x7⟩ := cell8g h18
                have hz : SatL w20 (cl c2 30 #[.int .u32 0, .int .u32 0, .int .u32 0, .int .u32 0, .int .u32 0, .int .u32 0, .slice none 0 0, .slice none 0 0] :: _) := h18.pull 8
                obtain ⟨z0, z1, z2, z3, z4, z5, z6, z7⟩ := cell8 hz
                have f0 := SatL.free (hz : SatL _ (cl c2 _ _ :: _)) 0
                have f1 := SatL.free (hz : SatL _ (cl c2 _ _ :: _)) 1
                have f2 := SatL.free (hz : SatL _ (cl c2 _ _ :: _)) 2
                have f3 := SatL.free (hz : SatL _ (cl c2 _ _ :: _)) 3
                have f4 := SatL.free (hz : SatL _ (cl c2 _ _ :: _)) 4
                have f5 := SatL.free (hz : SatL _ (cl c2 _ _ :: _)) 5
                have f6 := SatL.free (hz : SatL _ (cl c2 _ _ :: _)) 6
                have f7 := SatL.free (hz : SatL _ (cl c2 _ _ :: _)) 7
                have hW := set8_sat hz (.int .u32 (XI : Int)) (.int .u32 (PR : Int)) (.int .u32 (VR : Int)) (.int .u32 (PO : Int)) (.int .u32 (UI : Int)) (.int .u32 (GI : Int)) (.slice ga GS.length gc) (.slice ba bn bc)
                have HW := hid hW
                clear hz hW h18 h17 H16 h14 h13 h12 hK hx hsv hbb h63
                go_wp2_with fail
                have hW := HW.out
                generalize ((((((((w20.setCell ⟨c2, 0, none⟩ (.int .u32 (XI : Int))).setCell ⟨c2, 1, none⟩ (.int .u32 (PR : Int))).setCell ⟨c2, 2, none⟩ (.int .u32 (VR : Int))).setCell ⟨c2, 3, none⟩ (.int .u32 (PO : Int))).setCell ⟨c2, 4, none⟩ (.int .u32 (UI : Int))).setCell ⟨c2, 5, none⟩ (.int .u32 (GI : Int))).setCell ⟨c2, 6, none⟩ (.slice ga GS.length gc)).setCell ⟨c2, 7, none⟩ (.slice ba bn bc)) = W3 at hW ⊢
                obtain ⟨r0, r1, r2, r3, r4, r5, r6, r7⟩ := cell8g hW
                refine bodyPost_ret (v := .tuple #[.agg #[.int .u32 (XI : Int), .int .u32 (PR : Int), .int .u32 (VR : Int), .int .u32 (PO : Int), .int .u32 (UI : Int), .int .u32 (GI : Int), .slice ga GS.length gc, .slice ba bn bc], .nilIface]) (by simp [results, Tryd.results37, go_sem, r0, r1, r2, r3, r4, r5, r6, r7]) rfl (Ret.mk ?_)
                rw [Hq2.out]
                exact ⟨.slice ga GS.length gc, .slice ba bn bc, rfl, SatL.tail (SatL.tail (SatL.tail (SatL.tail (SatL.tail (SatL.tail (SatL.tail (SatL.bring hW [0, 1, 3, 4, 6, 7, 8, 5, 2])))))))⟩
          · have tf : ((VF : Int) != 0) = true := by simp; omega
            have hq5 := Hq4.out
            rw [if_pos (c := WY = 0 ∧ (VF ≠ 0 ∨ 0 < MO.length)) ⟨hW0, .inl hF⟩, if_pos (by omega)] at hq5
            have Hq2 := hid hq5
            have hal := h9.alloc (.cells #[.int .u32 1, .int .u32 1, .int .u32 3] 22)
            have kw := wrong_ok (e := 32) (us := [1, 1, 3]) hX (by intro u hu; simp at hu; omega) (by simp) hal (fun w' h' => RdW.ofCl (n := 3) (c := 3) h' rfl rfl (by omega) (by omega))
            clear hq5 Hq4 hal hW0 hF
            go_wp2_with (go_at_call 66; (with_reducible refine kw.mono ?_); rintro e w15 ⟨q, rfl, nb, rfl, h9⟩; have hz : SatL w15 (cl c2 30 #[.int .u32 0, .int .u32 0, .int .u32 0, .int .u32 0, .int .u32 0, .int .u32 0, .slice none 0 0, .slice none 0 0] :: _) := h9.pull 8; obtain ⟨z0, z1, z2, z3, z4, z5, z6, z7⟩ := cell8 hz; have f0 := SatL.free (hz : SatL _ (cl c2 _ _ :: _)) 0; have f1 := SatL.free (hz : SatL _ (cl c2 _ _ :: _)) 1; have f2 := SatL.free (hz : SatL _ (cl c2 _ _ :: _)) 2; have f3 := SatL.free (hz : SatL _ (cl c2 _ _ :: _)) 3; have f4 := SatL.free (hz : SatL _ (cl c2 _ _ :: _)) 4; have f5 := SatL.free (hz : SatL _ (cl c2 _ _ :: _)) 5; have f6 := SatL.free (hz : SatL _ (cl c2 _ _ :: _)) 6; have f7 := SatL.free (hz : SatL _ (cl c2 _ _ :: _)) 7; have hW := setz_sat hz; have HW := hid hW; clear hz hW h9)
            have hW := HW.out
            generalize ((((((((w15.setCell ⟨c2, 0, none⟩ (.int .u32 0)).setCell ⟨c2, 1, none⟩ (.int .u32 0)).setCell ⟨c2, 2, none⟩ (.int .u32 0)).setCell ⟨c2, 3, none⟩ (.int .u32 0)).setCell ⟨c2, 4, none⟩ (.int .u32 0)).setCell ⟨c2, 5, none⟩ (.int .u32 0)).setCell ⟨c2, 6, none⟩ (.slice none 0 0)).setCell ⟨c2, 7, none⟩ (.slice none 0 0)) = W3 at hW ⊢
            obtain ⟨r0, r1, r2, r3, r4, r5, r6, r7⟩ := cell8 hW
            refine bodyPost_ret (v := .tuple #[noCall, .iface 53 (.pointer (some ⟨nb, 0, none⟩))]) (by simp [results, Tryd.results37, go_sem, r0, r1, r2, r3, r4, r5, r6, r7]) rfl (Ret.mk ?_)
            rw [Hq2.out]
            exact ⟨_, rfl, SatL.tail (SatL.tail (SatL.tail (SatL.tail (SatL.tail (SatL.tail (SatL.tail (SatL.bring (SatL.tail hW) [1, 2, 3, 4, 5, 6, 7, 0])))))))⟩
        · have ty : ((WY : Int) == 0) = false := by simp; omega
          have ty2 : ((WY : Int) != 0) = true := by simp; omega
          have hq5 := Hq4.out
          rw [if_neg (c := WY = 0 ∧ (VF ≠ 0 ∨ 0 < MO.length)) (by omega), if_pos hW0] at hq5
          have Hq2 := hid hq5
          have hal := h9.alloc (.cells #[.int .u32 1, .int .u32 1, .int .u32 (WY : Int)] 22)
          have kw := wrong_ok (e := 32) (us := [1, 1, WY]) hX (by intro u hu; simp at hu; omega) (by simp) hal (fun w' h' => RdW.ofCl (n := 3) (c := 3) h' rfl rfl (by omega) (by omega))
          clear hq5 Hq4 hal hW0
          go_wp2_with (go_at_call 66; (with_reducible refine kw.mono ?_); rintro e w15 ⟨q, rfl, nb, rfl, h9⟩; have hz : SatL w15 (cl c2 30 #[.int .u32 0, .int .u32 0, .int .u32 0, .int .u32 0, .int .u32 0, .int .u32 0, .slice none 0 0, .slice none 0 0] :: _) := h9.pull 8; obtain ⟨z0, z1, z2, z3, z4, z5, z6, z7⟩ := cell8 hz; have f0 := SatL.free (hz : SatL _ (cl c2 _ _ :: _)) 0; have f1 := SatL.free (hz : SatL _ (cl c2 _ _ :: _)) 1; have f2 := SatL.free (hz : SatL _ (cl c2 _ _ :: _)) 2; have f3 := SatL.free (hz : SatL _ (cl c2 _ _ :: _)) 3; have f4 := SatL.free (hz : SatL _ (cl c2 _ _ :: _)) 4; have f5 := SatL.free (hz : SatL _ (cl c2 _ _ :: _)) 5; have f6 := SatL.free (hz : SatL _ (cl c2 _ _ :: _)) 6; have f7 := SatL.free (hz : SatL _ (cl c2 _ _ :: _)) 7; have hW := setz_sat hz; have HW := hid hW; clear hz hW h9)
          have hW := HW.out
          generalize ((((((((w15.setCell ⟨c2, 0, none⟩ (.int .u32 0)).setCell ⟨c2, 1, none⟩ (.int .u32 0)).setCell ⟨c2, 2, none⟩ (.int .u32 0)).setCell ⟨c2, 3, none⟩ (.int .u32 0)).setCell ⟨c2, 4, none⟩ (.int .u32 0)).setCell ⟨c2, 5, none⟩ (.int .u32 0)).setCell ⟨c2, 6, none⟩ (.slice none 0 0)).setCell ⟨c2, 7, none⟩ (.slice none 0 0)) = W3 at hW ⊢
          obtain ⟨r0, r1, r2, r3, r4, r5, r6, r7⟩ := cell8 hW
          refine bodyPost_ret (v := .tuple #[noCall, .iface 53 (.pointer (some ⟨nb, 0, none⟩))]) (by simp [results, Tryd.results37, go_sem, r0, r1, r2, r3, r4, r5, r6, r7]) rfl (Ret.mk ?_)
          rw [Hq2.out]
          exact ⟨_, rfl, SatL.tail (SatL.tail (SatL.tail (SatL.tail (SatL.tail (SatL.tail (SatL.tail (SatL.bring (SatL.tail hW) [1, 2, 3, 4, 5, 6, 7, 0])))))))⟩
end
end Go.Proofs.YtpecmkkcepnpeaaDoor
