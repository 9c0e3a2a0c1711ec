/- xdr's Reader: Fixed, Bytes. Condition: the reader has bytes at all where it bears no error. -/
import Derived.Test.YtpecmkkcepnpeaaDoorXdr
import Derived.Laws.BitsAllLaws
namespace Go.Proofs.YtpecmkkcepnpeaaDoor
set_option linter.unusedVariables false
set_option linter.unusedSimpArgs false
open Go.RowKit

/-- how many noughts lie behind n bytes -/
def pad4 (n : Nat) : Nat := (4 - n % 4) % 4
theorem pad4_le (n : Nat) : pad4 n ≤ 3 := by unfold pad4; omega
theorem pad4_mod (n : Nat) : (n + pad4 n) % 4 = 0 := by unfold pad4; omega
theorem and3_neg (n : Nat) : bits .and .i64 (-(n : Int)) 3 = (pad4 n : Int) := by
  show IntKind.i64.wrap (((BitVec.ofInt 64 (-(n : Int)) &&& BitVec.ofInt 64 3).toNat : Nat) : Int) = _
  have e3 : (BitVec.ofInt 64 3).toNat = 2 ^ 2 - 1 := by decide
  rw [BitVec.toNat_and, e3, Nat.and_two_pow_sub_one_eq_mod, BitVec.toNat_ofInt, IntWalk.i64_in _ (by omega)]
  unfold pad4
  have h64 : ((2 ^ 64 : Nat) : Int) = 18446744073709551616 := by decide
  rw [h64]
  omega
def Rdr.fixed (r : Rdr) (n : Nat) : List UInt8 × Rdr :=
  if r.err = 0 then
    if r.p + n + pad4 n ≤ r.b.length then
      if ((r.b.drop (r.p + n)).take (pad4 n)).all (· == 0) then ((r.b.drop r.p).take n, { r with p := r.p + n + pad4 n })
      else ([], { r with err := 15 })
    else ([], { r with err := 11 })
  else ([], r)
def bytesEnd (q : List UInt8 × Rdr) (p : Nat) : List UInt8 × Rdr := (q.1, if q.2.err = 0 then q.2 else { q.2 with p := p })
def Rdr.cut (r : Rdr) (n : Nat) (most : Int) : Rdr := if r.err = 0 ∧ most < (n : Int) then { r with err := 5 } else r
def Rdr.bytes (r : Rdr) (most : Int) : List UInt8 × Rdr := bytesEnd (((r.num 4).2.cut (r.num 4).1 most).fixed (r.num 4).1) r.p
theorem all_zero {l : List UInt8} : l.all (· == 0) = true ↔ ∀ m, m < l.length → l.getD m 0 = 0 := by
  rw [List.all_eq_true]
  constructor
  · intro h m hm
    have := h _ (List.getElem_mem hm)
    simp only [List.getD_eq_getElem?_getD, List.getElem?_eq_getElem hm, Option.getD_some]
    simpa using this
  · intro h x hx
    obtain ⟨m, hm, rfl⟩ := List.getElem_of_mem hx
    have := h m hm
    simp only [List.getD_eq_getElem?_getD, List.getElem?_eq_getElem hm, Option.getD_some] at this
    simpa using this
theorem RdB.sub_if {w : World} {b off n c : Nat} {l : List UInt8} (h : RdB (.slice (some ⟨b, off, none⟩) n c) l w) {i j : Nat} (hij : i ≤ j) (hj : j ≤ l.length) : RdB (.slice (if c = i then some ⟨b, off, none⟩ else some ⟨b, off + i, none⟩) (j - i) (c - i)) ((l.take j).drop i) w := by
  have h0 := h.sub hij hj
  by_cases hc : c = i
  · rw [if_pos hc]
    have hl : l.length ≤ c := by obtain ⟨a', c', e, h1, _⟩ := h.valn; cases e; exact h1
    have hji : j - i = 0 := by omega
    have he : (l.take j).drop i = [] := List.eq_nil_of_length_eq_zero (by simp; omega)
    rw [he, hji]
    have hc2 : c ≤ 9223372036854775807 := by obtain ⟨a', c', e, _, h2⟩ := h.valn; cases e; exact h2
    exact .inr ⟨b, off, c - i, rfl, Nat.zero_le _, by omega, fun k hk => by simp at hk⟩
  · rw [if_neg hc]; exact h0
/-- s[i:j] as a run fact: the walk then does not part on 'i is the capacity' -/
theorem run_sub {b off n c i j : Nat} (hij : i ≤ j) (hj : j ≤ c) (w : World) : (Instr.sliceAt 27 (.slice (some ⟨b, off, none⟩) n c) (some (.int .i64 (i : Int))) (some (.int .i64 (j : Int))) none).run Tryd.prog w = .ok (.slice (if c = i then some ⟨b, off, none⟩ else some ⟨b, off + i, none⟩) (j - i) (c - i)) w := by
  have hu : Tryd.prog.underlying 27 = some (.slice (Tryd.prog.elem 27)) := by kernel_rfl
  have hz : (sizeOf (Tryd.prog.elem 27)).run Tryd.prog w = .ok 1 w := by kernel_rfl
  rw [run_sliceAt_slice _ _ _ _ _ _ hu, run_slice_lh _ _ _ _ _ hu .i64 .i64 i j (by omega) (by omega) (by omega), hz]
  simp only [Result.andThen, sliced, Int.toNat_natCast, Option.map_some, Nat.mul_one, addr_add]
section
variable {w : World} {L : List HP} {rb : Nat} {r : Rdr}
theorem sat_drewM {m : Nat} : SatL (w.drewN m) L ↔ SatL w L := Iff.rfl
theorem rdr_bytes (h : SatL w (RdrR rb r :: L)) : ROk r := by obtain ⟨v, ok, _⟩ := sat_RdrR.1 h; exact ok
set_option maxRecDepth 100000 in
set_option maxHeartbeats 2000000 in
theorem fixed_ok {n : Nat} (hn : n ≤ 4294967295) (hb : r.err = 0 → 0 < r.b.length) (h : SatL w (RdrR rb r :: L)) :
    Calls Tryd.prog 83 #[.pointer (some ⟨rb, 0, none⟩), .int .i64 n] w (Ret fun v w' => SatL w' (SlB 5 v (r.fixed n).1 :: RdrR rb (r.fixed n).2 :: L)) := by
  have kl := left_ok h
  obtain ⟨v, ok, h0⟩ := sat_RdrR.1 h
  have hp3 := pad4_le n
  have ha3 := and3_neg n
  have hfx : Rdr.fixed r n = Rdr.fixed r n := rfl
  conv at hfx => rhs; unfold Rdr.fixed
  obtain ⟨B, p, E⟩ := r
  have hop : p ≤ B.length ∧ B.length ≤ 100000000 := ok
  dsimp only at *
  have hfl := hid (fun (e : Int) (w' : World) (X : List HP) (h : SatL w' (RdrR rb ⟨B, p, E⟩ :: X)) => fail_ok (e := e) h)
  have Hcel := hid (fun (w' : World) (X : List HP) (h : SatL w' (RdrR rb ⟨B, p, E⟩ :: X)) => (by
    obtain ⟨v, ok, h0⟩ := sat_RdrR.1 h
    exact ⟨v, SatL.cell (h0 : SatL w' (cl _ _ _ :: _)) (i := 0) rfl, SatL.cell (h0 : SatL w' (cl _ _ _ :: _)) (i := 1) rfl, SatL.cell (h0 : SatL w' (cl _ _ _ :: _)) (i := 2) rfl, SlB.rd (SatL.tail h0)⟩ :
    ∃ v, w'.cell? ⟨rb, 0, none⟩ = some v ∧ w'.cell? ⟨rb, 1, none⟩ = some (.int .i64 (p : Int)) ∧ w'.cell? ⟨rb, 2, none⟩ = some (.int .i64 E) ∧ RdB v B w'))
  generalize hpd : pad4 n = d at *
  have Hpd := hid hpd
  clear hpd h0 h
  by_cases hfit : p + n + d ≤ B.length
  · have hz : ¬ ((B.length : Int) - p - n < d) := by omega
    by_cases hE : E = 0
    · subst hE
      rw [if_pos rfl, if_pos hfit] at hfx
      have Hb := hid (hb rfl)
      clear hb
      obtain ⟨s, hs⟩ : ∃ s, s = p + n := ⟨_, rfl⟩
      obtain ⟨e, he⟩ : ∃ e, e = s + d := ⟨_, rfl⟩
      have w1f : IntKind.i64.wrap ((p : Int) + n) = (s : Int) := by rw [IntWalk.i64_in _ (by omega)]; omega
      have w2f : IntKind.i64.wrap ((s : Int) + d) = (e : Int) := by rw [IntWalk.i64_in _ (by omega)]; omega
      have w1g : (p : Int) + n = (s : Int) := by omega
      have w2g : (s : Int) + d = (e : Int) := by omega
      have hes : e - s = d := by omega
      have hsp : s - p = n := by omega
      have hsb : s ≤ 100000000 ∧ p ≤ s ∧ s ≤ e ∧ e ≤ B.length := by omega
      have Hse := hid (And.intro hs he)
      clear hs he w1f w2f
      go_enter Tryd.func83, Tryd.ntmps83
      go_upto_region 8 with (first
        | (go_at_call 50; (with_reducible refine kl.mono ?_); rintro e w1 ⟨vv, rfl, rfl, h1⟩; obtain ⟨v1, ok1, h1o⟩ := sat_RdrR.1 h1; dsimp only at h1o; have c0 := SatL.cell (h1o : SatL w1 (cl _ _ _ :: _)) (i := 0) rfl; have c1 := SatL.cell (h1o : SatL w1 (cl _ _ _ :: _)) (i := 1) rfl; have c2 := SatL.cell (h1o : SatL w1 (cl _ _ _ :: _)) (i := 2) rfl))
      obtain ⟨a, c, rfl, g1, g2⟩ := SlB.valn (SatL.tail h1o)
      obtain ⟨b, off, rfl⟩ := Sl.addr (SatL.tail h1o) Hb.out
      clear c2
      have hcl := hid (fun (i : Nat) (hi : i < B.length) => SlB.cell (SatL.tail h1o) hi)
      have q1 : s ≤ e := hsb.2.2.1
      have q2 : e ≤ c := by omega
      have q3 : p ≤ s := hsb.2.1
      have q4 : s ≤ c := by omega
      obtain ⟨SA, hSA⟩ : ∃ SA : Option Addr, SA = if c = s then some ⟨b, off, none⟩ else some ⟨b, off + s, none⟩ := ⟨_, rfl⟩
      obtain ⟨SC, hSC⟩ : ∃ SC, SC = c - s := ⟨_, rfl⟩
      have hsl1 := fun w => run_sub (b := b) (off := off) (n := B.length) q1 q2 w
      rw [← hSA, ← hSC, hes] at hsl1
      obtain ⟨PA, hPA⟩ : ∃ PA : Option Addr, PA = if c = p then some ⟨b, off, none⟩ else some ⟨b, off + p, none⟩ := ⟨_, rfl⟩
      have hsl2 := fun w => run_sub (b := b) (off := off) (n := B.length) q3 q4 w
      rw [← hPA, hsp] at hsl2
      have HSA := hid hSA
      have HPA := hid hPA
      clear kl hSA hSC hPA
      go_quiet (fail)
      have Ho := hid (sat_drewM.2 h1o : SatL (w1.drewN nq) _)
      have H1 := hid (sat_drewM.2 h1 : SatL (w1.drewN nq) _)
      have Hcl2 : Hid (∀ i, i < B.length → (w1.drewN nq).cell? ⟨b, off + i, none⟩ = some (.int .u8 (((B.getD i 0).toNat : Nat) : Int))) := hid hcl.out
      have C01 : (w1.drewN nq).cell? ⟨rb, 0, none⟩ = some (.slice (some ⟨b, off, none⟩) B.length c) ∧ (w1.drewN nq).cell? ⟨rb, 1, none⟩ = some (.int .i64 (p : Int)) := And.intro c0 c1
      clear h1 h1o c0 c1 hcl
      generalize w1.drewN nq = w2 at *
      go_wp2_with fail
      go_loopw [59] (fun i wr => ∃ j : Nat, j ≤ d ∧ i = .int .i64 j ∧ Hid (∀ m, m < j → ((B.drop (p + n)).take d).getD m 0 = 0) ∧ wr = w2) (fun i _ => d - (intOf i).toNat)
      case atStart => exact ⟨0, by omega, rfl, hid (fun m hm => absurd hm (Nat.not_lt_zero m)), rfl⟩
      case round =>
        obtain ⟨j, hj, rfl, hz0, hwr⟩ := hrel
        subst hwr
        by_cases hlt : j < d
        · have hne : SA = some ⟨b, off + s, none⟩ := by rw [HSA.out, if_neg (by omega)]
          subst hne
          have hx := Hcl2.out (s + j) (by omega)
          rw [← Nat.add_assoc] at hx
          have hzx : ((B.drop (p + n)).take d).getD j 0 = B.getD (s + j) 0 := by
            simp only [List.getD_eq_getElem?_getD, List.getElem?_take, List.getElem?_drop, Hse.out.1]
            rw [if_pos hlt]
          have Hzx := hid hzx
          obtain ⟨x, hxx⟩ : ∃ x, x = (B.getD (s + j) 0).toNat := ⟨_, rfl⟩
          rw [← hxx] at hx
          have Hxx := hid hxx
          clear hxx hzx
          by_cases h0 : x = 0
          · have h02 : ((x : Int) == 0) = true := by simp [h0]
            have H0 := hid h0
            clear h0
            go_wp2
            go_roundw
            case rel =>
              refine ⟨j + 1, by omega, by go_num, hid (fun m hm => ?_), by trivial⟩
              rcases Nat.lt_or_ge m j with h | h
              · exact hz0.out m h
              · obtain rfl : m = j := by omega
                rw [Hzx.out]
                exact UInt8.toNat_inj.1 (by rw [← Hxx.out, H0.out]; rfl)
            case measure => simp [intOf]; omega
          · have h02 : ((x : Int) == 0) = false := by simp; omega
            have hno := hid (show ((B.drop (p + n)).take d).all (· == 0) = true → False from fun hall => h0 (by
              have := (all_zero.1 hall) j (by simp; omega)
              rw [Hxx.out, ← Hzx.out, this]; rfl))
            have kf := hfl.out 15 _ _ H1.out
            have e2 : Rdr.fail ⟨B, p, 0⟩ 15 = ⟨B, p, 15⟩ := if_pos rfl
            rw [e2] at kf
            have Hfx := hid hfx
            clear hfx e2
            go_wp2_with (first
              | (go_at_call 82; (with_reducible refine kf.mono ?_); rintro e w2 ⟨vv, rfl, h2⟩))
            go_ret
            exact Ret.mk (by rw [Hfx.out, if_neg hno.out]; exact Sl_nil h2)
        · obtain rfl : j = d := by omega
          have hall : ((B.drop (p + n)).take j).all (· == 0) = true := all_zero.2 fun m hm => hz0.out m (by have : m < (List.take j (List.drop (p + n) B)).length := hm; simp at this; omega)
          rw [if_pos hall] at hfx
          have Hfx := hid hfx
          have hr : (B.take s).drop p = (B.drop p).take n := by rw [List.drop_take, hsp]
          have kc := clone_rd (v := .slice PA n (c - p)) (xs := (B.drop p).take n) (sat_drew.2 Ho.out) (fun w' h' => by have := RdB.sub_if (SlB.rd (SatL.tail h')) (i := p) (j := s) q3 (by have := Hse.out; omega); rw [hsp, hr, ← HPA.out] at this; exact this) (by simp; omega)
          have w3f : IntKind.i64.wrap (s : Int) = (s : Int) := IntWalk.i64_in _ (by omega)
          have S0 : wr.drew.cell? ⟨rb, 0, none⟩ = some (.slice (some ⟨b, off, none⟩) B.length c) ∧ wr.drew.cell? ⟨rb, 1, none⟩ = some (.int .i64 (p : Int)) := C01
          clear hfx hall hz0 Hcl2 H1 hr
          go_upto_region 15 with fail
          refine GoE.start (fun w' => w'.cell? ⟨rb, 0, none⟩ = some (.slice (some ⟨b, off, none⟩) B.length c) ∧ w'.cell? ⟨rb, 1, none⟩ = some (.int .i64 (p : Int))) 19 20 rfl (by kernel_rfl) ?_
          refine GoE.take (i := 0) (v := ?_) rfl (by decide) (by kernel_rfl) (by kernel_rfl) (by kernel_rfl) (by kernel_rfl) (fun _ _ _ h => h) (by rfl) ?_ (by assumption) ?_
          rotate_left
          · intro w hSw; (try dsimp only at hSw); go_simp; try (with_reducible rfl)
          try simp only [Act.put, List.setIfInBounds_toArray, List.set_cons_zero, List.set_cons_succ]
          refine GoE.take (i := 1) (v := ?_) rfl (by decide) (by kernel_rfl) (by kernel_rfl) (by kernel_rfl) (by kernel_rfl) (fun _ _ _ h => h) (by rfl) ?_ (by assumption) ?_
          rotate_left
          · intro w hSw; (try dsimp only at hSw); go_simp; try (with_reducible rfl)
          try simp only [Act.put, List.setIfInBounds_toArray, List.set_cons_zero, List.set_cons_succ]
          refine GoE.take (i := 2) (v := ?_) rfl (by decide) (by kernel_rfl) (by kernel_rfl) (by kernel_rfl) (by kernel_rfl) (fun _ _ _ h => h) (by rfl) ?_ (by assumption) ?_
          rotate_left
          · intro w hSw; (try dsimp only at hSw); go_simp; try (with_reducible rfl)
          try simp only [Act.put, List.setIfInBounds_toArray, List.set_cons_zero, List.set_cons_succ]
          refine GoE.take (i := 3) (v := ?_) rfl (by decide) (by kernel_rfl) (by kernel_rfl) (by kernel_rfl) (by kernel_rfl) (fun _ _ _ h => h) (by rfl) ?_ (by assumption) ?_
          rotate_left
          · intro w hSw; (try dsimp only at hSw); go_simp; try (with_reducible rfl)
          try simp only [Act.put, List.setIfInBounds_toArray, List.set_cons_zero, List.set_cons_succ]
          refine GoE.take (i := 4) (v := ?_) rfl (by decide) (by kernel_rfl) (by kernel_rfl) (by kernel_rfl) (by kernel_rfl) (fun _ _ _ h => h) (by rfl) ?_ (by assumption) ?_
          rotate_left
          · intro w hSw; (try dsimp only at hSw); go_simp; try (with_reducible rfl)
          try simp only [Act.put, List.setIfInBounds_toArray, List.set_cons_zero, List.set_cons_succ]
          refine GoE.take (i := 5) (v := ?_) rfl (by decide) (by kernel_rfl) (by kernel_rfl) (by kernel_rfl) (by kernel_rfl) (fun _ _ _ h => h) (by rfl) ?_ (by assumption) ?_
          rotate_left
          · intro w hSw; (try dsimp only at hSw); go_simp; try (with_reducible rfl)
          try simp only [Act.put, List.setIfInBounds_toArray, List.set_cons_zero, List.set_cons_succ]
          refine GoE.take (i := 6) (v := ?_) rfl (by decide) (by kernel_rfl) (by kernel_rfl) (by kernel_rfl) (by kernel_rfl) (fun _ _ _ h => h) (by rfl) ?_ (by assumption) ?_
          rotate_left
          · intro w hSw; (try dsimp only at hSw); go_simp; try (with_reducible rfl)
          try simp only [Act.put, List.setIfInBounds_toArray, List.set_cons_zero, List.set_cons_succ]
          refine GoE.take (i := 7) (v := ?_) rfl (by decide) (by kernel_rfl) (by kernel_rfl) (by kernel_rfl) (by kernel_rfl) (fun _ _ _ h => h) (by rfl) ?_ (by assumption) ?_
          rotate_left
          · intro w hSw; (try dsimp only at hSw); go_simp; try (with_reducible rfl)
          try simp only [Act.put, List.setIfInBounds_toArray, List.set_cons_zero, List.set_cons_succ]
          refine GoE.take (i := 8) (v := ?_) rfl (by decide) (by kernel_rfl) (by kernel_rfl) (by kernel_rfl) (by kernel_rfl) (fun _ _ _ h => h) (by rfl) ?_ (by assumption) ?_
          rotate_left
          · intro w hSw; (try dsimp only at hSw); go_simp; try (with_reducible rfl)
          try simp only [Act.put, List.setIfInBounds_toArray, List.set_cons_zero, List.set_cons_succ]
          refine GoE.take (i := 9) (v := ?_) rfl (by decide) (by kernel_rfl) (by kernel_rfl) (by kernel_rfl) (by kernel_rfl) (fun _ _ _ h => h) (by rfl) ?_ (by assumption) ?_
          rotate_left
          · intro w hSw; (try dsimp only at hSw); go_simp; try (with_reducible rfl)
          try simp only [Act.put, List.setIfInBounds_toArray, List.set_cons_zero, List.set_cons_succ]
          refine GoE.take (i := 10) (v := ?_) rfl (by decide) (by kernel_rfl) (by kernel_rfl) (by kernel_rfl) (by kernel_rfl) (fun _ _ _ h => h) (by rfl) ?_ (by assumption) ?_
          rotate_left
          · intro w hSw; (try dsimp only at hSw); go_simp; try (with_reducible rfl)
          try simp only [Act.put, List.setIfInBounds_toArray, List.set_cons_zero, List.set_cons_succ]
          refine GoE.take (i := 11) (v := ?_) rfl (by decide) (by kernel_rfl) (by kernel_rfl) (by kernel_rfl) (by kernel_rfl) (fun _ _ _ h => h) (by rfl) ?_ (by assumption) ?_
          rotate_left
          · intro w hSw; (try dsimp only at hSw); go_simp; try (with_reducible rfl)
          try simp only [Act.put, List.setIfInBounds_toArray, List.set_cons_zero, List.set_cons_succ]
          refine GoE.take (i := 12) (v := ?_) rfl (by decide) (by kernel_rfl) (by kernel_rfl) (by kernel_rfl) (by kernel_rfl) (fun _ _ _ h => h) (by rfl) ?_ (by assumption) ?_
          rotate_left
          · intro w hSw; (try dsimp only at hSw); go_simp; try (with_reducible rfl)
          try simp only [Act.put, List.setIfInBounds_toArray, List.set_cons_zero, List.set_cons_succ]
          refine GoE.take (i := 13) (v := ?_) rfl (by decide) (by kernel_rfl) (by kernel_rfl) (by kernel_rfl) (by kernel_rfl) (fun _ _ _ h => h) (by rfl) ?_ (by assumption) ?_
          rotate_left
          · intro w hSw; (try dsimp only at hSw); go_simp; try (with_reducible rfl)
          try simp only [Act.put, List.setIfInBounds_toArray, List.set_cons_zero, List.set_cons_succ]
          refine GoE.take (i := 14) (v := ?_) rfl (by decide) (by kernel_rfl) (by kernel_rfl) (by kernel_rfl) (by kernel_rfl) (fun _ _ _ h => h) (by rfl) ?_ (by assumption) ?_
          rotate_left
          · intro w hSw; (try dsimp only at hSw); go_simp; try (with_reducible rfl)
          try simp only [Act.put, List.setIfInBounds_toArray, List.set_cons_zero, List.set_cons_succ]
          refine GoE.take (i := 15) (v := ?_) rfl (by decide) (by kernel_rfl) (by kernel_rfl) (by kernel_rfl) (by kernel_rfl) (fun _ _ _ h => h) (by rfl) ?_ (by assumption) ?_
          rotate_left
          · intro w hSw; (try dsimp only at hSw); go_simp; try (with_reducible rfl)
          try simp only [Act.put, List.setIfInBounds_toArray, List.set_cons_zero, List.set_cons_succ]
          refine GoE.take (i := 16) (v := ?_) rfl (by decide) (by kernel_rfl) (by kernel_rfl) (by kernel_rfl) (by kernel_rfl) (fun _ _ _ h => h) (by rfl) ?_ (by assumption) ?_
          rotate_left
          · intro w hSw; (try dsimp only at hSw); go_simp; try (with_reducible rfl)
          try simp only [Act.put, List.setIfInBounds_toArray, List.set_cons_zero, List.set_cons_succ]
          refine GoE.take (i := 17) (v := ?_) rfl (by decide) (by kernel_rfl) (by kernel_rfl) (by kernel_rfl) (by kernel_rfl) (fun _ _ _ h => h) (by rfl) ?_ (by assumption) ?_
          rotate_left
          · intro w hSw; (try dsimp only at hSw); go_simp; try (with_reducible rfl)
          try simp only [Act.put, List.setIfInBounds_toArray, List.set_cons_zero, List.set_cons_succ]
          refine GoE.one (i := 18) rfl (by kernel_rfl) (fun K hK => ?_)
          go_simp
          go_at_call 65
          (with_reducible refine (kc).mono ?_)
          rintro e3 w3 ⟨v3, rfl, h3⟩; have S3 : w3.cell? ⟨rb, 0, none⟩ = some (.slice (some ⟨b, off, none⟩) B.length c) ∧ w3.cell? ⟨rb, 1, none⟩ = some (.int .i64 (p : Int)) := And.intro (SatL.cell (h3.pull 1 : SatL w3 (cl _ _ _ :: _)) (i := 0) rfl) (SatL.cell (h3.pull 1 : SatL w3 (cl _ _ _ :: _)) (i := 1) rfl)
          go_wp2_with fail
          refine hK.out _ _ (fun _ => S3) ?_
          clear hK K
          try simp only [Act.put, List.setIfInBounds_toArray, List.set_cons_zero, List.set_cons_succ]
          refine GoE.one (i := 19) rfl (by kernel_rfl) (fun K hK => ?_)
          go_simp
          refine hK.out _ _ (fun h => absurd rfl h) ?_
          clear hK K
          try simp only [Act.put, List.setIfInBounds_toArray, List.set_cons_zero, List.set_cons_succ]
          refine GoE.done (by kernel_rfl) ?_
          have f1 := SatL.free (h3.pull 1 : SatL w3 (cl _ _ _ :: _)) 1
          have hset := SatL.set (h3.pull 1 : SatL w3 (cl _ _ _ :: _)) (i := 1) (.int .i64 (e : Int))
          have u1 := S3.2
          have Hset := hid hset
          clear S0 C01 Ho kc hset S3
          go_wp2
          go_ret
          refine Ret.mk ?_
          rw [Hfx.out]
          have hee : ((p + n + j : Nat) : Int) = (e : Int) := by have := Hse.out; omega
          have h9 := Hset.out.bring [0, 2, 1]
          refine SatL.swap (sat_RdrR.2 ⟨.slice (some ⟨b, off, none⟩) B.length c, ⟨by have := Hse.out; show p + n + j ≤ B.length; omega, hop.2⟩, ?_⟩ : SatL _ (RdrR rb ⟨B, p + n + j, 0⟩ :: SlB 5 _ _ :: L))
          show SatL _ (cl rb 155 #[_, .int .i64 ((p + n + j : Nat) : Int), .int .i64 0] :: _)
          rw [hee]
          exact h9
    · have hE2 : (E == 0) = false := by simpa using hE
      rw [if_neg hE] at hfx
      have Hfx := hid hfx
      clear hfx hE hb
      go_enter Tryd.func83, Tryd.ntmps83
      go_wp2_with (first
        | (go_at_call 50; (with_reducible refine kl.mono ?_); rintro e w1 ⟨vv, rfl, rfl, h1⟩; obtain ⟨v1, c0, c1, c2, hr1⟩ := Hcel.out _ _ h1))
      go_ret
      exact Ret.mk (by rw [Hfx.out]; exact Sl_nil h1)
  · have hz : (B.length : Int) - p - n < d := by omega
    by_cases hE : E = 0
    · subst hE
      rw [if_pos rfl, if_neg hfit] at hfx
      have Hfx := hid hfx
      clear hfx hb
      have e2 : Rdr.fail ⟨B, p, 0⟩ 11 = ⟨B, p, 11⟩ := if_pos rfl
      have E2 := hid e2
      clear e2
      go_enter Tryd.func83, Tryd.ntmps83
      go_wp2_with (first
        | (go_at_call 50; (with_reducible refine kl.mono ?_); rintro e w1 ⟨vv, rfl, rfl, h1⟩; have kf := hfl.out 11 _ _ h1; rw [E2.out] at kf)
        | (go_at_call 82; (with_reducible refine kf.mono ?_); rintro e w2 ⟨vv, rfl, h2⟩; obtain ⟨v2, ok2, h3⟩ := sat_RdrR.1 h2; have d2 := SatL.cell (h3 : SatL w2 (cl _ _ _ :: _)) (i := 2) (v := .int .i64 11) rfl))
      go_ret
      exact Ret.mk (by rw [Hfx.out]; exact Sl_nil h2)
    · have hE2 : (E == 0) = false := by simpa using hE
      rw [if_neg hE] at hfx
      have Hfx := hid hfx
      have e2 : Rdr.fail ⟨B, p, E⟩ 11 = ⟨B, p, E⟩ := if_neg hE
      have E2 := hid e2
      clear hfx hE hb e2
      go_enter Tryd.func83, Tryd.ntmps83
      go_wp2_with (first
        | (go_at_call 50; (with_reducible refine kl.mono ?_); rintro e w1 ⟨vv, rfl, rfl, h1⟩; have kf := hfl.out 11 _ _ h1; rw [E2.out] at kf)
        | (go_at_call 82; (with_reducible refine kf.mono ?_); rintro e w2 ⟨vv, rfl, h2⟩; obtain ⟨v2, ok2, h3⟩ := sat_RdrR.1 h2; have d2 := SatL.cell (h3 : SatL w2 (cl _ _ _ :: _)) (i := 2) (v := .int .i64 E) rfl))
      go_ret
      exact Ret.mk (by rw [Hfx.out]; exact Sl_nil h2)
theorem num_err {r : Rdr} {n : Nat} (hn : 0 < n) (h : (r.num n).2.err = 0) : 0 < (r.num n).2.b.length := by
  unfold Rdr.num at h ⊢
  split at h
  · rename_i h0
    rw [if_pos h0]
    split at h
    · rename_i h1
      rw [if_pos h1]
      show 0 < r.b.length
      omega
    · exact absurd h (show ¬ (11 : Int) = 0 by decide)
  · rename_i h0
    exact absurd h h0
theorem Rdr.fixed_b (r : Rdr) (n : Nat) : (r.fixed n).2.b = r.b := by
  unfold Rdr.fixed
  split
  · split
    · split <;> rfl
    · rfl
  · rfl
theorem Rdr.num_b (r : Rdr) (n : Nat) : (r.num n).2.b = r.b := by
  unfold Rdr.num
  split
  · split <;> rfl
  · rfl
set_option maxRecDepth 100000 in
set_option maxHeartbeats 2000000 in
theorem bytes_ok {most : Int} (hm : 0 ≤ most ∧ most ≤ 1000000) (h : SatL w (RdrR rb r :: L)) :
    Calls Tryd.prog 67 #[.pointer (some ⟨rb, 0, none⟩), .int .i64 most] w (Ret fun v w' => SatL w' (SlB 5 v (r.bytes most).1 :: RdrR rb (r.bytes most).2 :: L)) := by
  have ku := u32_ok h
  have hlt := r.num_lt 4
  have hne := num_err (r := r) (n := 4) (by omega)
  have hrp : r.p ≤ (r.num 4).2.b.length := by rw [Rdr.num_b]; exact (rdr_bytes h).1
  obtain ⟨v0, _, h0⟩ := sat_RdrR.1 h
  have c1 := SatL.cell (h0 : SatL w (cl _ _ _ :: _)) (i := 1) (v := .int .i64 (r.p : Int)) rfl
  have hby : r.bytes most = bytesEnd (((r.num 4).2.cut (r.num 4).1 most).fixed (r.num 4).1) r.p := rfl
  have e4 : (256 : Nat) ^ 4 = 4294967296 := by decide
  rw [e4] at hlt
  generalize (r.num 4).1 = N at *
  generalize (r.num 4).2 = R1 at *
  generalize r.p = p at *
  clear h h0 e4
  by_cases h1 : R1.err = 0
  · by_cases h2 : most < (N : Int)
    · have e2 : Rdr.fail R1 5 = { R1 with err := 5 } := if_pos h1
      have t1 : (R1.err == 0) = true := by simp [h1]
      rw [show R1.cut N most = { R1 with err := 5 } from if_pos ⟨h1, h2⟩] at hby
      have hb2 : ({ R1 with err := 5 } : Rdr).err = 0 → 0 < ({ R1 with err := 5 } : Rdr).b.length := fun h => absurd h (by show ¬ (5 : Int) = 0; decide)
      have hb0 : ({ R1 with err := 5 } : Rdr).b = R1.b := rfl
      generalize hr2 : ({ R1 with err := 5 } : Rdr) = R2 at *
      clear hr2
      have hfb := Rdr.fixed_b R2 N
      rw [hb0] at hfb
      have kx := hid (fun (w' : World) (X : List HP) (h : SatL w' (RdrR rb R2 :: X)) => fixed_ok (n := N) (by omega) hb2 h)
      have Hf := hid (fun (w' : World) (X : List HP) (h : SatL w' (RdrR rb R1 :: X)) => (by have := fail_ok (e := 5) h; rw [e2] at this; exact this : Calls Tryd.prog 82 #[.pointer (some ⟨rb, 0, none⟩), .int .i64 5] w' (Ret fun v w'' => SatL w'' (RdrR rb R2 :: X))))
      obtain ⟨q, hq⟩ : ∃ q, q = R2.fixed N := ⟨_, rfl⟩
      rw [← hq] at hby hfb
      have kx2 := hid (fun (w' : World) (X : List HP) (h : SatL w' (RdrR rb R2 :: X)) => (by have := kx.out w' X h; rw [← hq] at this; exact this : Calls Tryd.prog 83 #[.pointer (some ⟨rb, 0, none⟩), .int .i64 N] w' (Ret fun v w'' => SatL w'' (SlB 5 v q.1 :: RdrR rb q.2 :: X))))
      clear hq kx hne hb2 hb0 e2
      by_cases hq0 : q.2.err = 0
      · have t0 : (q.2.err == 0) = true := by simp [hq0]
        rw [show bytesEnd q p = (q.1, q.2) from by unfold bytesEnd; rw [if_pos hq0]] at hby
        have Hby := hid hby
        have Hfb := hid hfb
        have Hrp := hid hrp
        clear hby hfb hq0 hrp h1
        go_enter Tryd.func67, Tryd.ntmps67
        go_wp2_with (first
          | (go_at_call 46; (with_reducible refine ku.mono ?_); rintro e w1 ⟨v, rfl, rfl, hh1⟩; obtain ⟨v1, _, hh1o⟩ := sat_RdrR.1 hh1; have d2 := SatL.cell (hh1o : SatL w1 (cl _ _ _ :: _)) (i := 2) (v := .int .i64 R1.err) rfl; have kf := Hf.out _ _ hh1)
          | (go_at_call 82; (with_reducible refine kf.mono ?_); rintro e w2 ⟨v, rfl, hh2⟩; have kk := kx2.out _ _ hh2)
          | (go_at_call 83; (with_reducible refine kk.mono ?_); rintro e w3 ⟨v, rfl, h3⟩; obtain ⟨v3, ok3, h3o⟩ := sat_RdrR.1 (h3.pull 1 : SatL w3 (RdrR _ _ :: _)); have d3 := SatL.cell (h3o : SatL w3 (cl _ _ _ :: _)) (i := 2) (v := .int .i64 q.2.err) rfl))
        go_ret
        exact Ret.mk (by rw [Hby.out]; exact h3)
      · have t0 : (q.2.err == 0) = false := by simpa using hq0
        rw [show bytesEnd q p = (q.1, { q.2 with p := p }) from by unfold bytesEnd; rw [if_neg hq0]] at hby
        have Hby := hid hby
        have Hfb := hid hfb
        have Hrp := hid hrp
        clear hby hfb hq0 hrp h1
        go_enter Tryd.func67, Tryd.ntmps67
        go_wp2_with (first
          | (go_at_call 46; (with_reducible refine ku.mono ?_); rintro e w1 ⟨v, rfl, rfl, hh1⟩; obtain ⟨v1, _, hh1o⟩ := sat_RdrR.1 hh1; have d2 := SatL.cell (hh1o : SatL w1 (cl _ _ _ :: _)) (i := 2) (v := .int .i64 R1.err) rfl; have kf := Hf.out _ _ hh1)
          | (go_at_call 82; (with_reducible refine kf.mono ?_); rintro e w2 ⟨v, rfl, hh2⟩; have kk := kx2.out _ _ hh2)
          | (go_at_call 83; (with_reducible refine kk.mono ?_); rintro e w3 ⟨v, rfl, h3⟩; obtain ⟨v3, ok3, h3o⟩ := sat_RdrR.1 (h3.pull 1 : SatL w3 (RdrR _ _ :: _)); have d3 := SatL.cell (h3o : SatL w3 (cl _ _ _ :: _)) (i := 2) (v := .int .i64 q.2.err) rfl; have f1 := SatL.free (h3o : SatL w3 (cl _ _ _ :: _)) 1; have g1 := SatL.cell (h3o : SatL w3 (cl _ _ _ :: _)) (i := 1) rfl; have hset := SatL.set (h3o : SatL w3 (cl _ _ _ :: _)) (i := 1) (.int .i64 (p : Int)); have Hset := hid hset; clear hset))
        go_ret
        refine Ret.mk ?_
        rw [Hby.out]
        exact SatL.swap (sat_RdrR.2 ⟨v3, ⟨by show p ≤ q.2.b.length; rw [Hfb.out]; exact Hrp.out, ok3.2⟩, Hset.out⟩ : SatL _ (RdrR rb { q.2 with p := p } :: SlB 5 _ _ :: L))
    · have t1 : (R1.err == 0) = true := by simp [h1]
      rw [show R1.cut N most = R1 from if_neg (fun h => h2 h.2)] at hby
      have hfb := Rdr.fixed_b R1 N
      have kx := hid (fun (w' : World) (X : List HP) (h : SatL w' (RdrR rb R1 :: X)) => fixed_ok (n := N) (by omega) hne h)
      obtain ⟨q, hq⟩ : ∃ q, q = R1.fixed N := ⟨_, rfl⟩
      rw [← hq] at hby hfb
      have kx2 := hid (fun (w' : World) (X : List HP) (h : SatL w' (RdrR rb R1 :: X)) => (by have := kx.out w' X h; rw [← hq] at this; exact this : Calls Tryd.prog 83 #[.pointer (some ⟨rb, 0, none⟩), .int .i64 N] w' (Ret fun v w'' => SatL w'' (SlB 5 v q.1 :: RdrR rb q.2 :: X))))
      clear hq kx hne
      by_cases hq0 : q.2.err = 0
      · have t0 : (q.2.err == 0) = true := by simp [hq0]
        rw [show bytesEnd q p = (q.1, q.2) from by unfold bytesEnd; rw [if_pos hq0]] at hby
        have Hby := hid hby
        have Hfb := hid hfb
        have Hrp := hid hrp
        clear hby hfb hq0 hrp h1
        go_enter Tryd.func67, Tryd.ntmps67
        go_wp2_with (first
          | (go_at_call 46; (with_reducible refine ku.mono ?_); rintro e w1 ⟨v, rfl, rfl, hh1⟩; obtain ⟨v1, _, hh1o⟩ := sat_RdrR.1 hh1; have d2 := SatL.cell (hh1o : SatL w1 (cl _ _ _ :: _)) (i := 2) (v := .int .i64 R1.err) rfl; have kk := kx2.out _ _ hh1)
          | (go_at_call 83; (with_reducible refine kk.mono ?_); rintro e w3 ⟨v, rfl, h3⟩; obtain ⟨v3, ok3, h3o⟩ := sat_RdrR.1 (h3.pull 1 : SatL w3 (RdrR _ _ :: _)); have d3 := SatL.cell (h3o : SatL w3 (cl _ _ _ :: _)) (i := 2) (v := .int .i64 q.2.err) rfl))
        go_ret
        exact Ret.mk (by rw [Hby.out]; exact h3)
      · have t0 : (q.2.err == 0) = false := by simpa using hq0
        rw [show bytesEnd q p = (q.1, { q.2 with p := p }) from by unfold bytesEnd; rw [if_neg hq0]] at hby
        have Hby := hid hby
        have Hfb := hid hfb
        have Hrp := hid hrp
        clear hby hfb hq0 hrp h1
        go_enter Tryd.func67, Tryd.ntmps67
        go_wp2_with (first
          | (go_at_call 46; (with_reducible refine ku.mono ?_); rintro e w1 ⟨v, rfl, rfl, hh1⟩; obtain ⟨v1, _, hh1o⟩ := sat_RdrR.1 hh1; have d2 := SatL.cell (hh1o : SatL w1 (cl _ _ _ :: _)) (i := 2) (v := .int .i64 R1.err) rfl; have kk := kx2.out _ _ hh1)
          | (go_at_call 83; (with_reducible refine kk.mono ?_); rintro e w3 ⟨v, rfl, h3⟩; obtain ⟨v3, ok3, h3o⟩ := sat_RdrR.1 (h3.pull 1 : SatL w3 (RdrR _ _ :: _)); have d3 := SatL.cell (h3o : SatL w3 (cl _ _ _ :: _)) (i := 2) (v := .int .i64 q.2.err) rfl; have f1 := SatL.free (h3o : SatL w3 (cl _ _ _ :: _)) 1; have g1 := SatL.cell (h3o : SatL w3 (cl _ _ _ :: _)) (i := 1) rfl; have hset := SatL.set (h3o : SatL w3 (cl _ _ _ :: _)) (i := 1) (.int .i64 (p : Int)); have Hset := hid hset; clear hset))
        go_ret
        refine Ret.mk ?_
        rw [Hby.out]
        exact SatL.swap (sat_RdrR.2 ⟨v3, ⟨by show p ≤ q.2.b.length; rw [Hfb.out]; exact Hrp.out, ok3.2⟩, Hset.out⟩ : SatL _ (RdrR rb { q.2 with p := p } :: SlB 5 _ _ :: L))
  · have t1 : (R1.err == 0) = false := by simpa using h1
    rw [show R1.cut N most = R1 from if_neg (fun h => h1 h.1)] at hby
    have hfb := Rdr.fixed_b R1 N
    have kx := hid (fun (w' : World) (X : List HP) (h : SatL w' (RdrR rb R1 :: X)) => fixed_ok (n := N) (by omega) hne h)
    obtain ⟨q, hq⟩ : ∃ q, q = R1.fixed N := ⟨_, rfl⟩
    rw [← hq] at hby hfb
    have kx2 := hid (fun (w' : World) (X : List HP) (h : SatL w' (RdrR rb R1 :: X)) => (by have := kx.out w' X h; rw [← hq] at this; exact this : Calls Tryd.prog 83 #[.pointer (some ⟨rb, 0, none⟩), .int .i64 N] w' (Ret fun v w'' => SatL w'' (SlB 5 v q.1 :: RdrR rb q.2 :: X))))
    clear hq kx hne
    by_cases hq0 : q.2.err = 0
    · have t0 : (q.2.err == 0) = true := by simp [hq0]
      rw [show bytesEnd q p = (q.1, q.2) from by unfold bytesEnd; rw [if_pos hq0]] at hby
      have Hby := hid hby
      have Hfb := hid hfb
      have Hrp := hid hrp
      clear hby hfb hq0 hrp h1
      go_enter Tryd.func67, Tryd.ntmps67
      go_wp2_with (first
        | (go_at_call 46; (with_reducible refine ku.mono ?_); rintro e w1 ⟨v, rfl, rfl, hh1⟩; obtain ⟨v1, _, hh1o⟩ := sat_RdrR.1 hh1; have d2 := SatL.cell (hh1o : SatL w1 (cl _ _ _ :: _)) (i := 2) (v := .int .i64 R1.err) rfl; have kk := kx2.out _ _ hh1)
        | (go_at_call 83; (with_reducible refine kk.mono ?_); rintro e w3 ⟨v, rfl, h3⟩; obtain ⟨v3, ok3, h3o⟩ := sat_RdrR.1 (h3.pull 1 : SatL w3 (RdrR _ _ :: _)); have d3 := SatL.cell (h3o : SatL w3 (cl _ _ _ :: _)) (i := 2) (v := .int .i64 q.2.err) rfl))
      go_ret
      exact Ret.mk (by rw [Hby.out]; exact h3)
    · have t0 : (q.2.err == 0) = false := by simpa using hq0
      rw [show bytesEnd q p = (q.1, { q.2 with p := p }) from by unfold bytesEnd; rw [if_neg hq0]] at hby
      have Hby := hid hby
      have Hfb := hid hfb
      have Hrp := hid hrp
      clear hby hfb hq0 hrp h1
      go_enter Tryd.func67, Tryd.ntmps67
      go_wp2_with (first
        | (go_at_call 46; (with_reducible refine ku.mono ?_); rintro e w1 ⟨v, rfl, rfl, hh1⟩; obtain ⟨v1, _, hh1o⟩ := sat_RdrR.1 hh1; have d2 := SatL.cell (hh1o : SatL w1 (cl _ _ _ :: _)) (i := 2) (v := .int .i64 R1.err) rfl; have kk := kx2.out _ _ hh1)
        | (go_at_call 83; (with_reducible refine kk.mono ?_); rintro e w3 ⟨v, rfl, h3⟩; obtain ⟨v3, ok3, h3o⟩ := sat_RdrR.1 (h3.pull 1 : SatL w3 (RdrR _ _ :: _)); have d3 := SatL.cell (h3o : SatL w3 (cl _ _ _ :: _)) (i := 2) (v := .int .i64 q.2.err) rfl; have f1 := SatL.free (h3o : SatL w3 (cl _ _ _ :: _)) 1; have g1 := SatL.cell (h3o : SatL w3 (cl _ _ _ :: _)) (i := 1) rfl; have hset := SatL.set (h3o : SatL w3 (cl _ _ _ :: _)) (i := 1) (.int .i64 (p : Int)); have Hset := hid hset; clear hset))
      go_ret
      refine Ret.mk ?_
      rw [Hby.out]
      exact SatL.swap (sat_RdrR.2 ⟨v3, ⟨by show p ≤ q.2.b.length; rw [Hfb.out]; exact Hrp.out, ok3.2⟩, Hset.out⟩ : SatL _ (RdrR rb { q.2 with p := p } :: SlB 5 _ _ :: L))
end
end Go.Proofs.YtpecmkkcepnpeaaDoor
