/- Rows of requests as what is owned; what a log's phase asks for. No condition. -/
import Derived.Test.YtjjnadlklfegcaaWalJoin
import Derived.Test.YtjjnadlklfegcaaLawRecs
namespace Go.Proofs.Ytjjnadlklfegcaa
set_option linter.unusedVariables false
set_option linter.unusedSimpArgs false
open Go.RowKit

theorem elem_req : ElemOk Try.prog 66 80 4 48 [Value.int .i64 0, Value.int .i64 0, Value.int .i64 0, Value.slice none 0 0] := .of (z := .agg #[.int .i64 0, .int .i64 0, .int .i64 0, .slice none 0 0]) (by kernel_rfl) (by kernel_rfl) rfl rfl (by decide) (by simp [Value.oneCell'])
theorem rcells_len (rs : List Rp) : (rcells rs).length = rs.length * 4 := by
  induction rs with
  | nil => rfl
  | cons r rs ih => rw [show rcells (r :: rs) = [.int .i64 r.k, .int .i64 r.b, .int .i64 r.n, r.v] ++ rcells rs from rfl, List.length_append, ih, List.length_cons]; simp; omega
theorem rcells_snoc (rs : List Rp) (r : Rp) : rcells (rs ++ [r]) = rcells rs ++ [.int .i64 r.k, .int .i64 r.b, .int .i64 r.n, r.v] := by simp [rcells]
theorem rcells_get : ∀ {rs : List Rp} {q : Nat} {r : Rp}, rs[q]? = some r → (rcells rs)[q * 4]? = some (.int .i64 r.k) ∧ (rcells rs)[q * 4 + 1]? = some (.int .i64 r.b) ∧ (rcells rs)[q * 4 + 2]? = some (.int .i64 r.n) ∧ (rcells rs)[q * 4 + 3]? = some r.v
  | [], q, r, h => by simp at h
  | x :: rs, 0, r, h => by simp at h; subst h; exact ⟨rfl, rfl, rfl, rfl⟩
  | x :: rs, q + 1, r, h => by
    have e : rcells (x :: rs) = .int .i64 x.k :: .int .i64 x.b :: .int .i64 x.n :: x.v :: rcells rs := rfl
    obtain ⟨h1, h2, h3, h4⟩ := rcells_get (show rs[q]? = some r by simpa using h)
    rw [e, show (q + 1) * 4 = q * 4 + 1 + 1 + 1 + 1 by omega]
    exact ⟨by simpa using h1, by simpa using h2, by simpa using h3, by simpa using h4⟩
theorem rqs_snoc (rs : List Rp) (r : Rp) : rqs (rs ++ [r]) = rqs rs ++ [⟨r.k, r.b, r.n, r.d⟩] := by simp

section
variable {w : World} {L : List HP}
theorem ReqsR.snoc {lv' : Value} {rs : List Rp} {k b n : Int} {u : Value} {d : List UInt8} (h : SatL w (SlK 80 4 lv' (rs.length + 1) (rcells rs ++ [.int .i64 k, .int .i64 b, .int .i64 n, u]) :: big (fun r : Rp => SlB 5 r.v r.d) rs :: SlB 5 u d :: L)) :
    SatL w (ReqsR lv' (rs ++ [⟨k, b, n, u, d⟩]) :: L) := by
  rw [sat_ReqsR, rcells_snoc, List.length_append]
  have h2 : SatL w (SlB 5 u d :: big (fun r : Rp => SlB 5 r.v r.d) (rs ++ []) :: SlK 80 4 lv' (rs.length + 1) (rcells rs ++ [.int .i64 k, .int .i64 b, .int .i64 n, u]) :: L) := by
    rw [List.append_nil]; exact h.bring [2, 1, 0]
  exact (big_mid (x := (⟨k, b, n, u, d⟩ : Rp)) |>.2 h2).swap
theorem ReqsR.one {k b n : Int} {u : Value} {d : List UInt8} {nb : Nat} (h : SatL w (cl nb 80 #[.int .i64 k, .int .i64 b, .int .i64 n, u] :: SlB 5 u d :: L)) : SatL w (ReqsR (.slice (some ⟨nb, 0, none⟩) 1 1) [⟨k, b, n, u, d⟩] :: L) := by
  have h2 : SatL w (SlK 80 4 (.slice (some ⟨nb, 0, none⟩) 1 1) (([] : List Rp).length + 1) (rcells [] ++ [.int .i64 k, .int .i64 b, .int .i64 n, u]) :: SlB 5 u d :: L) :=
    sat_SlK.2 (.inr ⟨nb, 0, 1, _, ⟨rfl, Nat.le_refl _, by unfold maxLen; omega, rfl, by simp, by simp [rcells]⟩, h⟩)
  have h3 := (big_nil (f := fun r : Rp => SlB 5 r.v r.d)).2 h2
  exact ReqsR.snoc (rs := []) h3.swap
/-- one request more, in a region that draws -/
theorem step_oneReq {ops : Array Oper} {o : Oper} {a : Act} {K : Act → World → Prop} {Q : Exit → Act → World → Prop} {X : Prop} {nb : Nat} {v u : Value} {rs : List Rp} {k b n : Int} {d : List UInt8} (hnb : nb = w.heap.size) (hgd : o.guard = none) (s x : Operand)
    (ho : o.op = .call { callee := .builtin .append, args := #[s, x], argTypes := #[66, 66] }) (hs : a.eval s = v) (hy : a.eval x = .slice (some ⟨nb, 0, none⟩) 1 1)
    (hu : u.oneCell' = true) (h : SatL w (ReqsR v rs :: SlB 5 u d :: L)) (hl : rs.length ≤ 1000000)
    (H : ∀ v' w', SatL w' (ReqsR v' (rs ++ [⟨k, b, n, u, d⟩]) :: L) → K (a.put o.dst v') w') :
    if Region.wanted o (yielded ops a.tmps) = true then Oper.wp Try.prog o a (w.alloc (.cells #[.int .i64 k, .int .i64 b, .int .i64 n, u] 80)) K Q else X := by
  refine step_pushK_sl hnb hgd s x ho elem_req (by omega) hs (sat_ReqsR.1 h) hy rfl (by intro y hy; simp at hy; rcases hy with rfl | rfl | rfl | rfl <;> first | rfl | exact hu) (by omega) ?_
  intro v' w' h2
  exact H v' w' (ReqsR.snoc h2)
end

/-- the requests of the phase that writes: sixteen blocks each -/
def wreq (start : Int) (ls : List PD) (i : Nat) : Rq := ⟨1, start + (((ls[i]?).map (·.1)).getD 0), 0, (((ls.drop i).take 16).map (·.2)).flatten⟩
def wreqs (start : Int) (ls : List PD) (c : Nat) : List Rq := (List.range c).map fun c => wreq start ls (16 * c)
def reqsOf (s : LogS) (p : Nat) : List Rq :=
  if p = 1 then [⟨1, s.start, 0, List.replicate 512 0⟩]
  else if p = 3 then wreqs s.start ((recAll s.seq s.N).drop 1) ((s.N.length + 1 + 15) / 16)
  else if p = 5 then [⟨1, s.start, 0, headB s.seq s.N⟩]
  else if p = 7 then s.N.map fun q => ⟨1, q.1, 0, q.2⟩
  else [⟨4, 0, 0, []⟩]
def LogS.enter (s : LogS) (p : Nat) : LogS := { s with phase := p, R := reqsOf s p, told := 0, don := 0 }
end Go.Proofs.Ytjjnadlklfegcaa
