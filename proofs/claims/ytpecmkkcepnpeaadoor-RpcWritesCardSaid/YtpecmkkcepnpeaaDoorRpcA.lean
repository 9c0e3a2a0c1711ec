/- rpc: says: what an answer says. No condition. -/
import Derived.Test.YtpecmkkcepnpeaaDoorRpcR
namespace Go.Proofs.YtpecmkkcepnpeaaDoor
set_option linter.unusedVariables false
set_option linter.unusedSimpArgs false
open Go.RowKit
/-- what the number behind the way says of an answer that was taken -/
def saysT (r : Rdr) : Int × Rdr :=
  if (r.num 4).1 = 0 then (0, (r.num 4).2)
  else if (r.num 4).1 = 1 then (34, (r.num 4).2)
  else if (r.num 4).1 = 2 then (35, ((r.num 4).2.num 8).2)
  else if (r.num 4).1 = 3 then (36, (r.num 4).2)
  else if (r.num 4).1 = 4 then (33, (r.num 4).2)
  else (15, (r.num 4).2)
/-- of one that was refused -/
def saysR (r : Rdr) : Int × Rdr :=
  if (r.num 4).1 = 0 then
    (if ((r.num 4).2.num 4).1 = 2 ∧ (((r.num 4).2.num 4).2.num 4).1 = 2 then 31 else 15, (((r.num 4).2.num 4).2.num 4).2)
  else if (r.num 4).1 = 1 then (32, ((r.num 4).2.num 4).2)
  else (15, (r.num 4).2)
def saysL (r : Rdr) : Int × Rdr :=
  if (r.num 4).1 = 1 then saysR (r.num 4).2 else saysT (((r.num 4).2.num 4).2.bytes 400).2
section
variable {w : World} {L : List HP} {rb : Nat} {r : Rdr}
theorem u64_ok (h : SatL w (RdrR rb r :: L)) :
    Calls Tryd.prog 76 #[.pointer (some ⟨rb, 0, none⟩)] w (Ret fun v w' => v = .int .u64 ((r.num 8).1 : Int) ∧ SatL w' (RdrR rb (r.num 8).2 :: L)) := by
  have kn := number_ok (n := 8) (.inr (.inr (.inr rfl))) h
  rw [show ((8 : Nat) : Int) = 8 from rfl] at kn
  clear h
  go_enter Tryd.func76, Tryd.ntmps76
  go_wp2_with (go_at_call 75; (with_reducible refine kn.mono ?_); rintro e w1 ⟨v, rfl, rfl, h1⟩)
  go_ret
  exact Ret.mk ⟨rfl, h1⟩
set_option maxRecDepth 100000 in
set_option maxHeartbeats 4000000 in
theorem says_ok (h : SatL w (RdrR rb r :: L)) :
    Calls Tryd.prog 49 #[.pointer (some ⟨rb, 0, none⟩)] w (Ret fun v w' => v = .int .i64 (saysL r).1 ∧ SatL w' (RdrR rb (saysL r).2 :: L)) := by
  have k0 := u32_ok h
  have hq : saysL r = saysL r := rfl
  conv at hq => rhs; unfold saysL
  have Hq := hid hq
  clear hq h
  obtain ⟨H, hH⟩ : ∃ H, (r.num 4).1 = H := ⟨_, rfl⟩
  obtain ⟨r1, hr1⟩ : ∃ r1, (r.num 4).2 = r1 := ⟨_, rfl⟩
  rw [hH, hr1] at k0 Hq
  clear hH hr1
  by_cases h1 : H = 1
  · have t1 : ((H : Int) == 1) = true := by simp [h1]
    have hq := Hq.out
    rw [if_pos h1] at hq
    have U1 := hid (fun (w' : World) (X : List HP) (h : SatL w' (RdrR rb r1 :: X)) => u32_ok h)
    have hS : saysR r1 = saysR r1 := rfl
    conv at hS => rhs; unfold saysR
    rw [hS] at hq
    clear hS Hq h1
    obtain ⟨K, hK⟩ : ∃ K, (r1.num 4).1 = K := ⟨_, rfl⟩
    obtain ⟨r2, hr2⟩ : ∃ r2, (r1.num 4).2 = r2 := ⟨_, rfl⟩
    rw [hK, hr2] at hq U1
    have U2 := hid (fun (w' : World) (X : List HP) (h : SatL w' (RdrR rb r2 :: X)) => u32_ok h)
    clear hK hr2
    obtain ⟨LO, hLO⟩ : ∃ LO, (r2.num 4).1 = LO := ⟨_, rfl⟩
    obtain ⟨r3, hr3⟩ : ∃ r3, (r2.num 4).2 = r3 := ⟨_, rfl⟩
    rw [hLO, hr3] at hq U2
    have U3 := hid (fun (w' : World) (X : List HP) (h : SatL w' (RdrR rb r3 :: X)) => u32_ok h)
    clear hLO hr3
    obtain ⟨HI, hHI⟩ : ∃ HI, (r3.num 4).1 = HI := ⟨_, rfl⟩
    obtain ⟨r4, hr4⟩ : ∃ r4, (r3.num 4).2 = r4 := ⟨_, rfl⟩
    rw [hHI, hr4] at hq U3
    clear hHI hr4
    by_cases h2 : K = 0
    · have t2 : ((K : Int) == 0) = true := by simp [h2]
      rw [if_pos h2] at hq
      clear h2
      by_cases h3 : LO = 2
      · have t3 : ((LO : Int) == 2) = true := by simp [h3]
        by_cases h4 : HI = 2
        · have t4 : ((HI : Int) == 2) = true := by simp [h4]
          rw [if_pos ⟨h3, h4⟩] at hq
          have Hq := hid hq
          clear hq h3 h4
          go_enter Tryd.func49, Tryd.ntmps49
          go_wp2_with (first
            | (go_at_call 46; (with_reducible refine k0.mono ?_); rintro e w1 ⟨v, rfl, rfl, h1⟩; have k1 := U1.out _ _ h1; clear k0)
            | (go_at_call 46; (with_reducible refine k1.mono ?_); rintro e w2 ⟨v, rfl, rfl, h2⟩; have k2 := U2.out _ _ h2; clear k1)
            | (go_at_call 46; (with_reducible refine k2.mono ?_); rintro e w3 ⟨v, rfl, rfl, h3⟩; have k3 := U3.out _ _ h3; clear k2)
            | (go_at_call 46; (with_reducible refine k3.mono ?_); rintro e w4 ⟨v, rfl, rfl, h4⟩; clear k3))
          go_ret
          exact Ret.mk (by rw [Hq.out]; exact ⟨rfl, h4⟩)
        · have t4 : ((HI : Int) == 2) = false := by simp; omega
          rw [if_neg (fun h => h4 h.2)] at hq
          have Hq := hid hq
          clear hq h3 h4
          go_enter Tryd.func49, Tryd.ntmps49
          go_wp2_with (first
            | (go_at_call 46; (with_reducible refine k0.mono ?_); rintro e w1 ⟨v, rfl, rfl, h1⟩; have k1 := U1.out _ _ h1; clear k0)
            | (go_at_call 46; (with_reducible refine k1.mono ?_); rintro e w2 ⟨v, rfl, rfl, h2⟩; have k2 := U2.out _ _ h2; clear k1)
            | (go_at_call 46; (with_reducible refine k2.mono ?_); rintro e w3 ⟨v, rfl, rfl, h3⟩; have k3 := U3.out _ _ h3; clear k2)
            | (go_at_call 46; (with_reducible refine k3.mono ?_); rintro e w4 ⟨v, rfl, rfl, h4⟩; clear k3))
          go_ret
          exact Ret.mk (by rw [Hq.out]; exact ⟨rfl, h4⟩)
      · have t3 : ((LO : Int) == 2) = false := by simp; omega
        rw [if_neg (fun h => h3 h.1)] at hq
        have Hq := hid hq
        clear hq h3
        go_enter Tryd.func49, Tryd.ntmps49
        go_wp2_with (first
          | (go_at_call 46; (with_reducible refine k0.mono ?_); rintro e w1 ⟨v, rfl, rfl, h1⟩; have k1 := U1.out _ _ h1; clear k0)
          | (go_at_call 46; (with_reducible refine k1.mono ?_); rintro e w2 ⟨v, rfl, rfl, h2⟩; have k2 := U2.out _ _ h2; clear k1)
          | (go_at_call 46; (with_reducible refine k2.mono ?_); rintro e w3 ⟨v, rfl, rfl, h3⟩; have k3 := U3.out _ _ h3; clear k2)
          | (go_at_call 46; (with_reducible refine k3.mono ?_); rintro e w4 ⟨v, rfl, rfl, h4⟩; clear k3))
        go_ret
        exact Ret.mk (by rw [Hq.out]; exact ⟨rfl, h4⟩)
    · have t2 : ((K : Int) == 0) = false := by simp; omega
      rw [if_neg h2] at hq
      clear h2
      by_cases h3 : K = 1
      · have t3 : ((K : Int) == 1) = true := by simp [h3]
        rw [if_pos h3] at hq
        have Hq := hid hq
        clear hq h3
        go_enter Tryd.func49, Tryd.ntmps49
        go_wp2_with (first
          | (go_at_call 46; (with_reducible refine k0.mono ?_); rintro e w1 ⟨v, rfl, rfl, h1⟩; have k1 := U1.out _ _ h1; clear k0)
          | (go_at_call 46; (with_reducible refine k1.mono ?_); rintro e w2 ⟨v, rfl, rfl, h2⟩; have k2 := U2.out _ _ h2; clear k1)
          | (go_at_call 46; (with_reducible refine k2.mono ?_); rintro e w3 ⟨v, rfl, rfl, h3⟩; clear k2))
        go_ret
        exact Ret.mk (by rw [Hq.out]; exact ⟨rfl, h3⟩)
      · have t3 : ((K : Int) == 1) = false := by simp; omega
        rw [if_neg h3] at hq
        have Hq := hid hq
        clear hq h3
        go_enter Tryd.func49, Tryd.ntmps49
        go_wp2_with (first
          | (go_at_call 46; (with_reducible refine k0.mono ?_); rintro e w1 ⟨v, rfl, rfl, h1⟩; have k1 := U1.out _ _ h1; clear k0)
          | (go_at_call 46; (with_reducible refine k1.mono ?_); rintro e w2 ⟨v, rfl, rfl, h2⟩; clear k1))
        go_ret
        exact Ret.mk (by rw [Hq.out]; exact ⟨rfl, h2⟩)
  · have t1 : ((H : Int) == 1) = false := by simp; omega
    have hq := Hq.out
    rw [if_neg h1] at hq
    have U1 := hid (fun (w' : World) (X : List HP) (h : SatL w' (RdrR rb r1 :: X)) => u32_ok h)
    clear Hq h1
    obtain ⟨K, hK⟩ : ∃ K, (r1.num 4).1 = K := ⟨_, rfl⟩
    obtain ⟨r2, hr2⟩ : ∃ r2, (r1.num 4).2 = r2 := ⟨_, rfl⟩
    rw [hr2] at hq
    rw [hK, hr2] at U1
    have U2 := hid (fun (w' : World) (X : List HP) (h : SatL w' (RdrR rb r2 :: X)) => bytes_ok (most := 400) (by omega) h)
    clear hK hr2
    obtain ⟨D, hD⟩ : ∃ D, (r2.bytes 400).1 = D := ⟨_, rfl⟩
    obtain ⟨r3, hr3⟩ : ∃ r3, (r2.bytes 400).2 = r3 := ⟨_, rfl⟩
    rw [hr3] at hq
    rw [hD, hr3] at U2
    have hS : saysT r3 = saysT r3 := rfl
    conv at hS => rhs; unfold saysT
    rw [hS] at hq
    clear hS hD hr3
    have U3 := hid (fun (w' : World) (X : List HP) (h : SatL w' (RdrR rb r3 :: X)) => u32_ok h)
    obtain ⟨M, hM⟩ : ∃ M, (r3.num 4).1 = M := ⟨_, rfl⟩
    obtain ⟨r4, hr4⟩ : ∃ r4, (r3.num 4).2 = r4 := ⟨_, rfl⟩
    rw [hM, hr4] at hq U3
    clear hM hr4
    have U4 := hid (fun (w' : World) (X : List HP) (h : SatL w' (RdrR rb r4 :: X)) => u64_ok h)
    by_cases m0 : M = 0
    · have t2 : ((M : Int) == 0) = true := by simp [m0]
      rw [if_pos m0] at hq
      have Hq := hid hq
      clear hq m0
      go_enter Tryd.func49, Tryd.ntmps49
      go_wp2_with (first
        | (go_at_call 46; (with_reducible refine k0.mono ?_); rintro e w1 ⟨v, rfl, rfl, h1⟩; have k1 := U1.out _ _ h1; clear k0)
        | (go_at_call 46; (with_reducible refine k1.mono ?_); rintro e w2 ⟨v, rfl, rfl, h2⟩; have k2 := U2.out _ _ h2; clear k1)
        | (go_at_call 67; (with_reducible refine k2.mono ?_); rintro e w3 ⟨v, rfl, h3⟩; obtain ⟨dn, hdn⟩ : ∃ dn, D.length = dn := ⟨_, rfl⟩; obtain ⟨da, dc, rfl, _, _⟩ := Sl.valn h3 (m := dn) (by rw [bvs_len]; exact hdn); have k3 := U3.out _ _ h3.tail; clear k2 hdn)
        | (go_at_call 46; (with_reducible refine k3.mono ?_); rintro e w4 ⟨v, rfl, rfl, h4⟩; clear k3))
      go_ret
      exact Ret.mk (by rw [Hq.out]; exact ⟨rfl, h4⟩)
    · have t2 : ((M : Int) == 0) = false := by simp; omega
      rw [if_neg m0] at hq
      by_cases m1 : M = 1
      · have t3 : ((M : Int) == 1) = true := by simp [m1]
        rw [if_pos m1] at hq
        have Hq := hid hq
        clear hq m0 m1
        go_enter Tryd.func49, Tryd.ntmps49
        go_wp2_with (first
          | (go_at_call 46; (with_reducible refine k0.mono ?_); rintro e w1 ⟨v, rfl, rfl, h1⟩; have k1 := U1.out _ _ h1; clear k0)
          | (go_at_call 46; (with_reducible refine k1.mono ?_); rintro e w2 ⟨v, rfl, rfl, h2⟩; have k2 := U2.out _ _ h2; clear k1)
          | (go_at_call 67; (with_reducible refine k2.mono ?_); rintro e w3 ⟨v, rfl, h3⟩; obtain ⟨dn, hdn⟩ : ∃ dn, D.length = dn := ⟨_, rfl⟩; obtain ⟨da, dc, rfl, _, _⟩ := Sl.valn h3 (m := dn) (by rw [bvs_len]; exact hdn); have k3 := U3.out _ _ h3.tail; clear k2 hdn)
          | (go_at_call 46; (with_reducible refine k3.mono ?_); rintro e w4 ⟨v, rfl, rfl, h4⟩; clear k3))
        go_ret
        exact Ret.mk (by rw [Hq.out]; exact ⟨rfl, h4⟩)
      · have t3 : ((M : Int) == 1) = false := by simp; omega
        rw [if_neg m1] at hq
        by_cases m2 : M = 2
        · have t4 : ((M : Int) == 2) = true := by simp [m2]
          rw [if_pos m2] at hq
          have Hq := hid hq
          clear hq m0 m1 m2
          go_enter Tryd.func49, Tryd.ntmps49
          go_wp2_with (first
            | (go_at_call 46; (with_reducible refine k0.mono ?_); rintro e w1 ⟨v, rfl, rfl, h1⟩; have k1 := U1.out _ _ h1; clear k0)
            | (go_at_call 46; (with_reducible refine k1.mono ?_); rintro e w2 ⟨v, rfl, rfl, h2⟩; have k2 := U2.out _ _ h2; clear k1)
            | (go_at_call 67; (with_reducible refine k2.mono ?_); rintro e w3 ⟨v, rfl, h3⟩; obtain ⟨dn, hdn⟩ : ∃ dn, D.length = dn := ⟨_, rfl⟩; obtain ⟨da, dc, rfl, _, _⟩ := Sl.valn h3 (m := dn) (by rw [bvs_len]; exact hdn); have k3 := U3.out _ _ h3.tail; clear k2 hdn)
            | (go_at_call 46; (with_reducible refine k3.mono ?_); rintro e w4 ⟨v, rfl, rfl, h4⟩; have k4 := U4.out _ _ h4; clear k3)
            | (go_at_call 76; (with_reducible refine k4.mono ?_); rintro e w5 ⟨v, rfl, rfl, h5⟩; clear k4))
          go_ret
          exact Ret.mk (by rw [Hq.out]; exact ⟨rfl, h5⟩)
        · have t4 : ((M : Int) == 2) = false := by simp; omega
          rw [if_neg m2] at hq
          by_cases m3 : M = 3
          · have t5 : ((M : Int) == 3) = true := by simp [m3]
            rw [if_pos m3] at hq
            have Hq := hid hq
            clear hq m0 m1 m2 m3
            go_enter Tryd.func49, Tryd.ntmps49
            go_wp2_with (first
              | (go_at_call 46; (with_reducible refine k0.mono ?_); rintro e w1 ⟨v, rfl, rfl, h1⟩; have k1 := U1.out _ _ h1; clear k0)
              | (go_at_call 46; (with_reducible refine k1.mono ?_); rintro e w2 ⟨v, rfl, rfl, h2⟩; have k2 := U2.out _ _ h2; clear k1)
              | (go_at_call 67; (with_reducible refine k2.mono ?_); rintro e w3 ⟨v, rfl, h3⟩; obtain ⟨dn, hdn⟩ : ∃ dn, D.length = dn := ⟨_, rfl⟩; obtain ⟨da, dc, rfl, _, _⟩ := Sl.valn h3 (m := dn) (by rw [bvs_len]; exact hdn); have k3 := U3.out _ _ h3.tail; clear k2 hdn)
              | (go_at_call 46; (with_reducible refine k3.mono ?_); rintro e w4 ⟨v, rfl, rfl, h4⟩; clear k3))
            go_ret
            exact Ret.mk (by rw [Hq.out]; exact ⟨rfl, h4⟩)
          · have t5 : ((M : Int) == 3) = false := by simp; omega
            rw [if_neg m3] at hq
            by_cases m4 : M = 4
            · have t6 : ((M : Int) == 4) = true := by simp [m4]
              rw [if_pos m4] at hq
              have Hq := hid hq
              clear hq m0 m1 m2 m3 m4
              go_enter Tryd.func49, Tryd.ntmps49
              go_wp2_with (first
                | (go_at_call 46; (with_reducible refine k0.mono ?_); rintro e w1 ⟨v, rfl, rfl, h1⟩; have k1 := U1.out _ _ h1; clear k0)
                | (go_at_call 46; (with_reducible refine k1.mono ?_); rintro e w2 ⟨v, rfl, rfl, h2⟩; have k2 := U2.out _ _ h2; clear k1)
                | (go_at_call 67; (with_reducible refine k2.mono ?_); rintro e w3 ⟨v, rfl, h3⟩; obtain ⟨dn, hdn⟩ : ∃ dn, D.length = dn := ⟨_, rfl⟩; obtain ⟨da, dc, rfl, _, _⟩ := Sl.valn h3 (m := dn) (by rw [bvs_len]; exact hdn); have k3 := U3.out _ _ h3.tail; clear k2 hdn)
                | (go_at_call 46; (with_reducible refine k3.mono ?_); rintro e w4 ⟨v, rfl, rfl, h4⟩; clear k3))
              go_ret
              exact Ret.mk (by rw [Hq.out]; exact ⟨rfl, h4⟩)
            · have t6 : ((M : Int) == 4) = false := by simp; omega
              rw [if_neg m4] at hq
              have Hq := hid hq
              clear hq m0 m1 m2 m3 m4
              go_enter Tryd.func49, Tryd.ntmps49
              go_wp2_with (first
                | (go_at_call 46; (with_reducible refine k0.mono ?_); rintro e w1 ⟨v, rfl, rfl, h1⟩; have k1 := U1.out _ _ h1; clear k0)
                | (go_at_call 46; (with_reducible refine k1.mono ?_); rintro e w2 ⟨v, rfl, rfl, h2⟩; have k2 := U2.out _ _ h2; clear k1)
                | (go_at_call 67; (with_reducible refine k2.mono ?_); rintro e w3 ⟨v, rfl, h3⟩; obtain ⟨dn, hdn⟩ : ∃ dn, D.length = dn := ⟨_, rfl⟩; obtain ⟨da, dc, rfl, _, _⟩ := Sl.valn h3 (m := dn) (by rw [bvs_len]; exact hdn); have k3 := U3.out _ _ h3.tail; clear k2 hdn)
                | (go_at_call 46; (with_reducible refine k3.mono ?_); rintro e w4 ⟨v, rfl, rfl, h4⟩; clear k3))
              go_ret
              exact Ret.mk (by rw [Hq.out]; exact ⟨rfl, h4⟩)
end
end Go.Proofs.YtpecmkkcepnpeaaDoor
