/- rpc, plain: what is read of a call that was written. No condition beside the sizes. -/
import Derived.Test.YtpecmkkcepnpeaaDoorRpcP
namespace Go.Proofs.YtpecmkkcepnpeaaDoor
set_option linter.unusedVariables false
set_option linter.unusedSimpArgs false
open Go.RowKit
/-- a reader without an error that stands ahead of these bytes -/
def Rdr.at (r : Rdr) (rest : List UInt8) : Prop := r.err = 0 ∧ r.p ≤ r.b.length ∧ r.b.drop r.p = rest
theorem Rdr.at.len {r : Rdr} {x : List UInt8} (h : r.at x) : r.b.length = r.p + x.length := by
  obtain ⟨_, h1, h2⟩ := h
  have := congrArg List.length h2
  rw [List.length_drop] at this
  omega
theorem be4_cons (u : Nat) (us : List Nat) : be4 (u :: us) = hib 4 u ++ be4 us := by unfold be4; rw [List.flatMap_cons]
theorem at_new (b : List UInt8) : (Rdr.new b).at b := ⟨rfl, Nat.zero_le _, rfl⟩
theorem at_num {r : Rdr} {v : Nat} {rest : List UInt8} (h : r.at (hib 4 v ++ rest)) (hv : v < 4294967296) : (r.num 4).1 = v ∧ (r.num 4).2.at rest := by
  have hl := h.len
  obtain ⟨h0, h1, h2⟩ := h
  rw [List.length_append, hib_len] at hl
  have e : r.num 4 = (beN ((r.b.drop r.p).take 4), { r with p := r.p + 4 }) := by unfold Rdr.num; rw [if_pos h0, if_pos (by omega)]
  rw [e]
  refine ⟨?_, h0, by dsimp only; omega, ?_⟩
  · dsimp only
    rw [h2, List.take_append_of_le_length (by rw [hib_len]; omega), List.take_of_length_le (by rw [hib_len]; omega), beN_hib]
    exact Nat.mod_eq_of_lt hv
  · dsimp only
    rw [← List.drop_drop, h2, List.drop_append_of_le_length (by rw [hib_len]; omega), List.drop_of_length_le (by rw [hib_len]; omega), List.nil_append]
theorem at_bytes {r : Rdr} {xs rest : List UInt8} {m : Nat} (h : r.at (hib 4 xs.length ++ (xs ++ (List.replicate (pad4 xs.length) 0 ++ rest)))) (hm : xs.length ≤ m) (hv : xs.length < 4294967296) : (r.bytes (m : Int)).1 = xs ∧ (r.bytes (m : Int)).2.at rest := by
  obtain ⟨e1, h1⟩ := at_num h hv
  have hl := h1.len
  show (bytesEnd (((r.num 4).2.cut (r.num 4).1 (m : Int)).fixed (r.num 4).1) r.p).1 = xs ∧ (bytesEnd (((r.num 4).2.cut (r.num 4).1 (m : Int)).fixed (r.num 4).1) r.p).2.at rest
  rw [e1]
  generalize (r.num 4).2 = R at *
  obtain ⟨h0, h2, h3⟩ := h1
  have ec : R.cut xs.length (m : Int) = R := by unfold Rdr.cut; rw [if_neg (by omega)]
  rw [ec]
  simp only [List.length_append, List.length_replicate] at hl
  have ez : (R.b.drop (R.p + xs.length)).take (pad4 xs.length) = List.replicate (pad4 xs.length) 0 := by
    rw [← List.drop_drop, h3, List.drop_append_of_le_length (Nat.le_refl _), List.drop_length, List.nil_append, List.take_append_of_le_length (by simp), List.take_of_length_le (by simp)]
  have ef : R.fixed xs.length = (xs, { R with p := R.p + xs.length + pad4 xs.length }) := by
    unfold Rdr.fixed
    rw [if_pos h0, if_pos (by omega), ez, if_pos (by simp), h3, List.take_append_of_le_length (Nat.le_refl _), List.take_length]
  rw [ef]
  unfold bytesEnd
  dsimp only
  rw [if_pos h0]
  refine ⟨rfl, h0, by dsimp only; omega, ?_⟩
  dsimp only
  rw [← List.drop_drop, ← List.drop_drop, h3, List.drop_append_of_le_length (Nat.le_refl _), List.drop_length, List.nil_append, List.drop_append_of_le_length (by simp), List.drop_of_length_le (by simp), List.nil_append]
theorem at_many : ∀ (n : Nat) (us : List Nat) (r : Rdr) (rest : List UInt8), us.length = n → (∀ u ∈ us, u < 4294967296) → r.at (be4 us ++ rest) → (Rdr.many n r).1 = us ∧ (Rdr.many n r).2.at rest := by
  intro n
  induction n with
  | zero =>
    intro us r rest hn _ h
    obtain rfl : us = [] := List.eq_nil_of_length_eq_zero hn
    exact ⟨rfl, h⟩
  | succ n ih =>
    intro us r rest hn hu h
    rcases List.eq_nil_or_concat us with rfl | ⟨us, u, rfl⟩
    · simp at hn
    rw [List.concat_eq_append] at *
    rw [List.length_append] at hn
    simp only [List.length_cons, List.length_nil] at hn
    rw [be4_append, be4_cons, List.append_assoc] at h
    have hn0 : be4 [] = [] := rfl
    rw [hn0, List.append_nil] at h
    obtain ⟨h1, h2⟩ := ih us r _ (by omega) (fun x hx => hu x (List.mem_append_left _ hx)) h
    obtain ⟨h3, h4⟩ := at_num h2 (hu u (by simp))
    show (Rdr.many n r).1 ++ [((Rdr.many n r).2.num 4).1] = _ ∧ Rdr.at ((Rdr.many n r).2.num 4).2 rest
    rw [h1, h3]
    exact ⟨rfl, h4⟩
theorem credL_who {c : CallL} (ok : c.ok) : credL 1 c.who = (⟨c.uid, c.gid, c.gids.take 16⟩, 0) := by
  have hlen : (c.gids.take 16).length ≤ 16 := by rw [List.length_take]; omega
  have hg : ∀ u ∈ c.gids.take 16, u < 4294967296 := fun u hu => ok.2 u (List.mem_of_mem_take hu)
  obtain ⟨⟨_, _, _, _, q5, q6⟩, _⟩ := ok
  have h0 := at_new c.who
  have hw : c.who = hib 4 0 ++ (hib 4 ([] : List UInt8).length ++ (([] : List UInt8) ++ (List.replicate (pad4 ([] : List UInt8).length) 0 ++ (hib 4 c.uid ++ (hib 4 c.gid ++ (hib 4 (c.gids.take 16).length ++ (be4 (c.gids.take 16) ++ []))))))) := by
    unfold CallL.who
    rw [be4_append]
    simp only [be4_cons, List.append_assoc, List.nil_append, List.append_nil]
    rfl
  rw [hw] at h0
  obtain ⟨-, h1⟩ := at_num h0 (by omega)
  obtain ⟨-, h2⟩ := at_bytes (m := 255) h1 (by simp) (by simp)
  obtain ⟨e3, h3⟩ := at_num h2 q5
  obtain ⟨e4, h4⟩ := at_num h3 q6
  obtain ⟨e5, h5⟩ := at_num h4 (by omega)
  obtain ⟨e6, h6⟩ := at_many _ _ _ _ rfl hg h5
  rw [← hw] at e3 e4 e5 e6 h6
  have hM : sysM c.who = (c.gids.take 16).length := e5
  have hE : sysE c.who = (Rdr.many (c.gids.take 16).length ((sysN c.who).num 4).2).2 := by
    unfold sysE; rw [hM, if_pos hlen]
  have hC : sysC c.who = ⟨c.uid, c.gid, c.gids.take 16⟩ := by
    unfold sysC
    rw [hM]
    exact congr (congr (congrArg CredL.mk e3) e4) e6
  have hA : (sysE c.who).at [] := by rw [hE]; exact h6
  unfold credL
  rw [if_neg (by omega), if_neg (by omega), if_pos ⟨hA.1, by omega, by have := hA.len; simp at this; omega⟩, hC]
/-- what is read where the numbers ahead stand as they must -/
theorem readL_at {xid prog vers proc how : Nat} {told body : List UInt8} (h1 : xid < 4294967296) (h2 : prog < 4294967296) (h3 : vers < 4294967296) (h4 : proc < 4294967296) (h5 : how < 4294967296) (ht : told.length ≤ 400) (hp : pad4 told.length = 0) :
    readL (be4 [xid, 0, 2, prog, vers, proc, how] ++ hib 4 told.length ++ told ++ be4 [0, 0] ++ body) =
      if (credL how told).2 ≠ 0 then .bad 32 (be4 [xid, 1, 1, 1, (credL how told).2])
      else if (knownL prog vers proc).1 ≠ 0 then .bad (knownL prog vers proc).1 (be4 ([xid, 1, 0, 0, 0] ++ (knownL prog vers proc).2))
      else .good ⟨xid, prog, vers, proc, (credL how told).1.uid, (credL how told).1.gid, (credL how told).1.gids, body⟩ := by
  generalize hB : be4 [xid, 0, 2, prog, vers, proc, how] ++ hib 4 told.length ++ told ++ be4 [0, 0] ++ body = B
  have hw : B = hib 4 xid ++ (hib 4 0 ++ (hib 4 2 ++ (hib 4 prog ++ (hib 4 vers ++ (hib 4 proc ++ (hib 4 how ++ (hib 4 told.length ++ (told ++ (List.replicate (pad4 told.length) 0 ++ (hib 4 0 ++ (hib 4 ([] : List UInt8).length ++ (([] : List UInt8) ++ (List.replicate (pad4 ([] : List UInt8).length) 0 ++ body))))))))))))) := by
    rw [← hB, hp]
    simp only [be4_cons, List.append_assoc, List.nil_append, List.append_nil, List.replicate_zero]
    rfl
  have a0 := at_new B
  conv at a0 => arg 2; rw [hw]
  obtain ⟨e1, a1⟩ := at_num a0 h1
  obtain ⟨e2, a2⟩ := at_num a1 (by omega)
  obtain ⟨e3, a3⟩ := at_num a2 (by omega)
  obtain ⟨e4, a4⟩ := at_num a3 h2
  obtain ⟨e5, a5⟩ := at_num a4 h3
  obtain ⟨e6, a6⟩ := at_num a5 h4
  obtain ⟨e7, a7⟩ := at_num a6 h5
  obtain ⟨e8, a8⟩ := at_bytes (m := 400) a7 ht (by omega)
  obtain ⟨e9, a9⟩ := at_num a8 (by omega)
  obtain ⟨e10, a10⟩ := at_bytes (m := 400) a9 (by simp) (by simp)
  have k3 : (rd3 B).err = 0 := a3.1
  have k10 : (rd10 B).err = 0 := a10.1
  have x1 : rxid B = xid := e1
  have x2 : rkind B = 0 := e2
  have x3 : rvers B = 2 := e3
  have x4 : cprog B = prog := e4
  have x5 : cvers B = vers := e5
  have x6 : cproc B = proc := e6
  have x7 : chow B = how := e7
  have x8 : ctold B = told := e8
  have x9 : cverf B = 0 := e9
  have x10 : cmore B = [] := e10
  have x11 : B.drop (rd10 B).p = body := by
    have q : (rd10 B).b.drop (rd10 B).p = body := a10.2.2
    rwa [rd10_b] at q
  have x12 : cwhy B = (credL how told).2 := by
    unfold cwhy
    rw [x7, x8, x9, x10, if_neg (by simp)]
  unfold readL
  rw [k3, k10, x1, x2, x3, x4, x5, x6, x7, x8, x11, x12, if_neg (by omega), if_neg (by omega), if_neg (by omega)]
/-- a call that was written is read as it, with sixteen groups at most, or refused by what it asks for -/
theorem readL_bytes {c : CallL} (ok : c.ok) : readL c.bytes =
      if (knownL c.prog c.vers c.proc).1 ≠ 0 then .bad (knownL c.prog c.vers c.proc).1 (be4 ([c.xid, 1, 0, 0, 0] ++ (knownL c.prog c.vers c.proc).2))
      else .good ⟨c.xid, c.prog, c.vers, c.proc, c.uid, c.gid, c.gids.take 16, c.body⟩ := by
  have hcr := credL_who ok
  have hwl : c.who.length ≤ 400 := by rw [CallL.who_len, List.length_take]; omega
  obtain ⟨⟨q1, q2, q3, q4, q5, q6⟩, _⟩ := ok
  have := readL_at (how := 1) (told := c.who) (body := c.body) q1 q2 q3 q4 (by omega) hwl (CallL.who_pad c)
  rw [hcr] at this
  rw [if_neg (by simp)] at this
  exact this
end Go.Proofs.YtpecmkkcepnpeaaDoor
