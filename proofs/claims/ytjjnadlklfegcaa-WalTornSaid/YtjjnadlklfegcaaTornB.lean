/- For WalTorn: what stands in the log, and what is told of it, as plain lists. No condition. -/
import Derived.Test.YtjjnadlklfegcaaTornA
namespace Go.Proofs.Ytjjnadlklfegcaa
set_option linter.unusedVariables false
set_option linter.unusedSimpArgs false
open Go.RowKit

theorem torn_in {P Q : List PD} {xs ys ls ms zs : List Pt} {tP tQ : Int} {vp vq : Value} (hx : pds xs = recRows 1 P) (hy : pds ys = recRows 2 Q) (htP : tP = ((1 + P.length : Nat) : Int)) (htQ : tQ = ((1 + Q.length : Nat) : Int))
    (hls : ls = xs ++ [⟨tP, vp, endB 1 P⟩]) (hms : ms = ys ++ [⟨tQ, vq, endB 2 Q⟩]) (h1 : ∀ q ∈ zs, q ∈ ls ∨ q ∈ ms) (h2 : ∀ q ∈ ls, q ∈ zs) :
    (∀ q ∈ pds zs, q ∈ recAll 1 P ∨ q ∈ recAll 2 Q) ∧ (0, headB 1 P) ∈ pds zs := by
  have kl : pds ls = recAll 1 P := by rw [hls, pds_snoc, hx, htP]; rfl
  have km : pds ms = recAll 2 Q := by rw [hms, pds_snoc, hy, htQ]; rfl
  constructor
  · intro q hq
    obtain ⟨p, hp, rfl⟩ := List.mem_map.1 hq
    rcases h1 p hp with h | h
    · left; rw [← kl]; exact List.mem_map_of_mem h
    · right; rw [← km]; exact List.mem_map_of_mem h
  · have h0 : (0, headB 1 P) ∈ pds ls := by rw [kl]; simp [recAll, recRows]
    obtain ⟨p, hp, he⟩ := List.mem_map.1 h0
    rw [← he]; exact List.mem_map_of_mem (h2 p hp)
theorem head_row {s : Nat} {P : List PD} {xs : List Pt} (hx : pds xs = recRows s P) : ∃ v r, xs = ⟨0, v, headB s P⟩ :: r := by
  cases xs with
  | nil => simp [recRows] at hx
  | cons p r =>
    obtain ⟨b, v, d⟩ := p
    simp [recRows] at hx
    obtain ⟨⟨rfl, rfl⟩, _⟩ := hx
    exact ⟨v, r, rfl⟩
theorem pds_fst (ps : List Pt) : (pds ps).map (·.1) = ps.map (·.b) := by simp
theorem pds_snd (ps : List Pt) : (pds ps).map (·.2) = ps.map (·.d) := by simp
theorem same_b {gs ws : List Pt} (h : gs.map (·.b) = ws.map (·.b)) : gs.length = ws.length ∧ ∀ k (h1 : k < gs.length) (h2 : k < ws.length), gs[k].b = ws[k].b := by
  have hl : gs.length = ws.length := by simpa using congrArg List.length h
  refine ⟨hl, fun k h1 h2 => ?_⟩
  have := congrArg (fun l : List Int => l[k]?) h
  simpa [h1, h2] using this
/-- the bytes of the first k blocks -/
def flatTo (ps : List Pt) (k : Nat) : List UInt8 := ((ps.take k).map (·.d)).flatten
theorem flatTo_succ {ps : List Pt} {k : Nat} (h : k < ps.length) : flatTo ps (k + 1) = flatTo ps k ++ ps[k].d := by
  unfold flatTo
  rw [List.take_add_one, List.getElem?_eq_getElem h]
  simp only [Option.toList_some, List.map_append, List.flatten_append, List.map_cons, List.map_nil, List.flatten_cons, List.flatten_nil, List.append_nil]
theorem flatTo_len {ps : List Pt} (h : ∀ p ∈ ps, p.d.length ≤ 512) : ∀ k, (flatTo ps k).length ≤ 512 * k
  | 0 => by simp [flatTo]
  | k + 1 => by
    by_cases hk : k < ps.length
    · have := flatTo_len h k
      have h2 := h _ (List.getElem_mem hk)
      rw [flatTo_succ hk, List.length_append]; omega
    · have h1 := flatTo_len h k
      have : flatTo ps (k + 1) = flatTo ps k := by
        unfold flatTo
        rw [List.take_of_length_le (by omega), List.take_of_length_le (by omega)]
      rw [this]; omega
theorem flatTo_all (ps : List Pt) : flatTo ps ps.length = ((pds ps).map (·.2)).flatten := by
  unfold flatTo; rw [List.take_length, pds_snd]
/-- what is told of a torn log: as plain facts of the blocks -/
theorem torn_got {s : Nat} {G got l : List PD} {gs ws : List Pt} (hgs : pds gs = got) (hws : pds ws = G) (hlen : G.length ≤ 64) (hr : recov (logB l) = (s, got, 0)) (hp : got.map (·.1) = G.map (·.1)) (hG : ∀ p ∈ G, ∃ b, p.2 = putB 512 b)
    (hc : crcN (headB s G ++ (G.map (·.2)).flatten) = crcN (headB s G ++ (got.map (·.2)).flatten)) :
    gs.length = ws.length ∧ (∀ k (h1 : k < gs.length) (h2 : k < ws.length), gs[k].b = ws[k].b) ∧ (∀ p ∈ gs, p.d.length ≤ 512) ∧ (∀ p ∈ ws, p.d.length ≤ 512) ∧ crcN (headB s G ++ flatTo ws ws.length) = crcN (headB s G ++ flatTo gs gs.length) := by
  have hb := same_b (gs := gs) (ws := ws) (by rw [← pds_fst, ← pds_fst, hgs, hws]; exact hp)
  refine ⟨hb.1, hb.2, ?_, ?_, ?_⟩
  · intro p hpm
    have h1 : (p.b, p.d) ∈ got := by rw [← hgs]; exact List.mem_map_of_mem hpm
    have h2 : got = gotOf (logB l) := by
      unfold recov at hr
      rw [if_neg (by rw [logB_len]; omega)] at hr
      by_cases hg : recovGood (logB l)
      · rw [if_pos hg] at hr
        injection hr with _ hr
        injection hr with hr _
        exact hr.symm
      · rw [if_neg hg] at hr
        injection hr with _ hr
        injection hr with hr _
        rw [← hr] at h1
        simp at h1
    rw [h2] at h1
    obtain ⟨i, _, hi⟩ := List.mem_map.1 h1
    have : p.d = rowAt (logB l) (1 + i) := by injection hi with _ h; exact h.symm
    rw [this, rowAt, List.length_take]; omega
  · intro p hpm
    obtain ⟨b, hb⟩ := hG (p.b, p.d) (by rw [← hws]; exact List.mem_map_of_mem hpm)
    simp only at hb
    rw [hb, putB_len]; omega
  · rw [flatTo_all, flatTo_all, hgs, hws]; exact hc
end Go.Proofs.Ytjjnadlklfegcaa
