/- What a reading of an argument says of the memory that it leads to. No condition. -/
import Derived.Test.YtklnlomleiebaaaSlice
import Derived.ProofKit
import Derived.SizedLaws
namespace Go.Proofs.Ytklnlomleiebaaa
set_option linter.unusedVariables false
set_option linter.unusedSimpArgs false
open Go.RowKit

/-- these cells can be read as data of type t, each part of which is within the form's reach -/
def Rd (P : Program) (w : World) (t : TypeId) (cs : List Value) : Prop :=
  ∃ (H : Type) (enc : TypeId × Value → H) (base : Nat) (spare : Nat → Bool) (held : Bool) (fuel : Nat) (x : DataW H × List MemPlace), DataW.trod enc P w base spare held fuel t cs = some x ∧ ∀ n ∈ x.1.weights P t, n ≤ reachBytes

section
variable {P : Program} {w : World} {t e : TypeId} {cs : List Value}

theorem Rd.of {H : Type} {enc : TypeId × Value → H} {base : Nat} {spare : Nat → Bool} {held : Bool} {v : Value} {d : DataW H} {ps : List MemPlace} (h : DataW.Trod enc P w base spare held t v d ps) (hz : ∀ n ∈ d.weights P t, n ≤ reachBytes) : Rd P w t v.cells.toList := by
  obtain ⟨fuel, h⟩ := h
  exact ⟨H, enc, base, spare, held, fuel, _, h, hz⟩
theorem Rd.sized {H : Type} {ts : List TypeId} {ds : List (DataW H)} (h : (DataW.weightsEach P ts ds).all (· ≤ reachBytes) = true) {j : Nat} {t : TypeId} {d : DataW H} (ht : ts[j]? = some t) (hd : ds[j]? = some d) : ∀ n ∈ d.weights P t, n ≤ reachBytes := fun n hn => by
  simpa using List.all_eq_true.1 h n (DataW.weights_mem_each ht hd n hn)
theorem weights_all {H : Type} {e : TypeId} : ∀ (l : List (DataW H)) (d : DataW H), d ∈ l → ∀ n ∈ d.weights P e, n ∈ DataW.weightsAll P e l
  | [], _, hd, _, _ => by cases hd
  | x :: l, d, hd, n, hn => by
    rw [DataW.weightsAll]
    rcases List.mem_cons.1 hd with rfl | hd
    · exact List.mem_append_left _ hn
    · exact List.mem_append_right _ (weights_all l d hd n hn)

theorem Rd.int {k : IntKind} (ht : P.underlying t = some (.int k)) (h : Rd P w t cs) : ∃ n, cs = [.int k n] ∧ k.min ≤ n ∧ n ≤ k.max := by
  obtain ⟨H, enc, base, spare, held, fuel, x, h, _⟩ := h
  obtain ⟨n, h1, _, h2⟩ := DataW.trod_int ht h
  refine ⟨n, h1, ?_⟩
  simpa [Lit.wf] using h2
theorem Rd.bool (ht : P.underlying t = some .bool) (h : Rd P w t cs) : ∃ b, cs = [.bool b] := by
  obtain ⟨H, enc, base, spare, held, fuel, x, h, _⟩ := h
  obtain ⟨b, h1, _⟩ := DataW.trod_bool ht h
  exact ⟨b, h1⟩
theorem Rd.string (ht : P.underlying t = some .string) (h : Rd P w t cs) : ∃ s : ByteArray, cs = [.string s] ∧ s.size ≤ maxLen := by
  obtain ⟨H, enc, base, spare, held, fuel, x, h, _⟩ := h
  obtain ⟨s, h1, _, h2⟩ := DataW.trod_string ht h
  exact ⟨s, h1, h2⟩
theorem Rd.struct {fs : Array Field} (ht : P.underlying t = some (.struct fs)) (h : Rd P w t cs) : cs.length = P.cellsOf t ∧ ∀ (i : Nat) (f : Field), fs[i]? = some f → Rd P w f.type ((cs.drop f.offset).take (P.cellsOf f.type)) := by
  obtain ⟨H, enc, base, spare, held, fuel, x, h, hz⟩ := h
  obtain ⟨xs, n, _, hx, h1, h2, h3⟩ := DataW.trod_struct ht h
  refine ⟨h1, fun i f hf => ?_⟩
  have h4 := h3 i f hf
  have hi : i < xs.length := by rw [h2]; exact (Array.getElem?_eq_some_iff.1 hf).1
  have hx4 : xs[i]? = some xs[i] := List.getElem?_eq_getElem hi
  rw [hx4] at h4
  refine ⟨H, enc, base, spare, held, n, _, h4, fun k hk => hz k ?_⟩
  rw [hx, DataW.weights, ht]
  exact DataW.weights_mem_each (j := i) (by rw [List.getElem?_map, Array.getElem?_toList, hf]; rfl) (by rw [List.getElem?_map, hx4]; rfl) k hk

theorem cells_at : ∀ (n : Nat) {a : Addr} {base : Nat} {cs : List Value}, w.cells? base a n = some cs → cs.length = n ∧ ∀ (i : Nat) v, cs[i]? = some v → w.cell? (a.add i) = some v := by
  intro n a base cs h
  unfold World.cells? at h
  split at h
  · have hl := mapM_some_length h
    refine ⟨by simpa using hl, fun i v hv => ?_⟩
    have hi : i < n := by have := (List.getElem?_eq_some_iff.1 hv).1; rw [hl] at this; simpa using this
    have h2 := mapM_some_get h i i (by simp [hi])
    rw [h2, hv]
  · cases h

/-- a slice: nil, or a row of elements each of which can be read -/
theorem Rd.slice (ht : P.underlying t = some (.slice e)) (hpos : 0 < P.cellsOf e) (h : Rd P w t cs) : cs = [.slice none 0 0] ∨ ∃ (b : Nat) (o : Nat × Option Nat) (len cap : Nat), (0 < len → o.2 = none) ∧ cs = [.slice (some ⟨b, o.1, o.2⟩) len cap] ∧ len ≤ cap ∧ cap ≤ maxLen ∧
    ∀ i, i < len → ∃ es : List Value, es.length = P.cellsOf e ∧ Rd P w e es ∧ ∀ (j : Nat) v, es[j]? = some v → w.cell? ⟨b, o.1 + i * P.cellsOf e + j, none⟩ = some v := by
  obtain ⟨H, enc, base, spare, held, fuel, x, h, hz⟩ := h
  rcases DataW.trod_slice ht h with ⟨h0, _⟩ | ⟨a, len, cap, elems, rest, n, _, h1, hx, _, h3, h4, h5, h6, _, _⟩
  · exact .inl h0
  · right
    obtain ⟨b, o, s⟩ := a
    have each : ∀ i, i < len → ∃ es : List Value, w.cells? base ((⟨b, o, s⟩ : Addr).add (i * P.cellsOf e)) (P.cellsOf e) = some es ∧ Rd P w e es := by
      intro i hi
      have h7 := h6 i hi
      have hel : i < elems.length := by omega
      rw [List.getElem?_eq_getElem hel] at h7
      obtain ⟨es, h8, h9⟩ := Option.bind_eq_some_iff.1 h7
      refine ⟨es, h8, H, enc, base, spare, held, n, _, h9, fun k hk => hz k ?_⟩
      rw [hx, DataW.weights, ht]
      exact List.mem_cons_of_mem _ (List.mem_append_left _ (weights_all _ _ (List.mem_map_of_mem (List.getElem_mem hel)) k hk))
    have hs : 0 < len → s = none := by
      intro hl
      obtain ⟨es, h8, _⟩ := each 0 hl
      obtain ⟨h9, h10⟩ := cells_at _ h8
      have h11 := h10 0 es[0] (List.getElem?_eq_getElem (by omega))
      cases s with
      | none => rfl
      | some q => simp [Addr.add, World.cell?] at h11; split at h11 <;> simp at h11
    refine ⟨b, (o, s), len, cap, hs, h1, h3, h4, fun i hi => ?_⟩
    obtain ⟨es, h8, h9⟩ := each i hi
    obtain ⟨h10, h11⟩ := cells_at _ h8
    refine ⟨es, h10, h9, fun j v hv => ?_⟩
    have h12 := h11 j v hv
    have hs0 := hs (by omega)
    subst hs0
    have e1 : ((⟨b, o, none⟩ : Addr).add (i * P.cellsOf e)).add j = ⟨b, o + i * P.cellsOf e + j, none⟩ := by
      unfold Addr.add; split <;> split <;> simp_all
    rwa [e1] at h12

/-- a slice that came in takes no more bytes than the form's reach -/
theorem Rd.reach {a : Option Addr} {len cap : Nat} (ht : P.underlying t = some (.slice e)) (h : Rd P w t (Value.slice a len cap).cells.toList) : len * P.bytesOf e ≤ 140737488351232 := by
  obtain ⟨H, enc, base, spare, held, fuel, x, h, hz⟩ := h
  rcases DataW.trod_slice ht h with ⟨h0, _⟩ | ⟨a, len, cap, elems, rest, n, _, h1, hx, _, h3, h4, h5, h6, _, _⟩
  · simp [Value.cells] at h0
    obtain ⟨_, rfl, _⟩ := h0
    omega
  · simp [Value.cells] at h1
    obtain ⟨_, rfl, _⟩ := h1
    have := hz ((elems.length + rest.length) * P.bytesOf e) (by rw [hx, DataW.weights, ht]; simp)
    unfold reachBytes at this
    have h2 : elems.length * P.bytesOf e ≤ (elems.length + rest.length) * P.bytesOf e := Nat.mul_le_mul_right _ (by omega)
    rw [h5] at this h2
    omega

/-- the elements of a slice that came in: at least these cells -/
def IsRow (w : World) (k : Nat) (a : Option Addr) (len : Nat) (V : Nat → List Value) : Prop :=
  len ≤ 9223372036854775807 ∧ (0 < len → ∃ b o, a = some ⟨b, o, none⟩ ∧ ∀ i, i < len → (V i).length = k ∧ ∀ (j : Nat) v, (V i)[j]? = some v → w.cell? ⟨b, o + i * k + j, none⟩ = some v)

theorem Rd.row {a : Option Addr} {len cap k : Nat} (ht : P.underlying t = some (.slice e)) (hk : P.cellsOf e = k) (hpos : 0 < k) (h : Rd P w t (Value.slice a len cap).cells.toList) :
    ∃ V : Nat → List Value, IsRow w k a len V ∧ ∀ i, i < len → Rd P w e (V i) := by
  subst hk
  rcases Rd.slice ht hpos h with h | ⟨b, o, len', cap', hs, h, h3, h4, h5⟩
  · simp [Value.cells] at h
    obtain ⟨rfl, rfl, rfl⟩ := h
    exact ⟨fun _ => [], ⟨by omega, fun h => by omega⟩, fun i hi => by omega⟩
  · simp [Value.cells] at h
    obtain ⟨rfl, rfl, rfl⟩ := h
    have h5' : ∀ i, ∃ es : List Value, i < len → (es.length = P.cellsOf e ∧ Rd P w e es ∧ ∀ (j : Nat) v, es[j]? = some v → w.cell? ⟨b, o.1 + i * P.cellsOf e + j, none⟩ = some v) := by
      intro i
      by_cases hi : i < len
      · obtain ⟨es, h⟩ := h5 i hi; exact ⟨es, fun _ => h⟩
      · exact ⟨[], fun h => absurd h hi⟩
    refine ⟨fun i => Classical.choose (h5' i), ⟨by unfold maxLen at h4; omega, fun hl => ⟨b, o.1, by rw [hs hl], fun i hi => ?_⟩⟩, fun i hi => (Classical.choose_spec (h5' i) hi).2.1⟩
    have := Classical.choose_spec (h5' i) hi
    exact ⟨this.1, this.2.2⟩
theorem IsRow.congr {k : Nat} {a : Option Addr} {len : Nat} {V V' : Nat → List Value} (h : IsRow w k a len V) (e : ∀ i, i < len → V i = V' i) : IsRow w k a len V' := by
  refine ⟨h.1, fun hl => ?_⟩
  obtain ⟨b, o, ha, hc⟩ := h.2 hl
  exact ⟨b, o, ha, fun i hi => by have := hc i hi; rw [e i hi] at this; exact this⟩
/-- a row of integers that came in -/
theorem Rd.ints {a : Option Addr} {len cap : Nat} {kd : IntKind} (ht : P.underlying t = some (.slice e)) (he : P.underlying e = some (.int kd)) (hk : P.cellsOf e = 1) (h : Rd P w t (Value.slice a len cap).cells.toList) :
    ∃ A : Nat → Int, IsRow w 1 a len (fun i => [.int kd (A i)]) ∧ ∀ i, kd.min ≤ A i ∧ A i ≤ kd.max := by
  obtain ⟨V, hrow, hV⟩ := Rd.row (k := 1) ht hk (by omega) h
  have hb : ∀ i, ∃ x : Int, (i < len → V i = [.int kd x]) ∧ kd.min ≤ x ∧ x ≤ kd.max := by
    intro i
    by_cases hi : i < len
    · obtain ⟨b, hb, h1, h2⟩ := Rd.int he (hV i hi); exact ⟨b, fun _ => hb, h1, h2⟩
    · exact ⟨0, fun h => absurd h hi, by cases kd <;> decide, by cases kd <;> decide⟩
  exact ⟨fun i => Classical.choose (hb i), hrow.congr (fun i hi => (Classical.choose_spec (hb i)).1 hi), fun i => (Classical.choose_spec (hb i)).2⟩
/-- a row of bytes that came in -/
theorem Rd.bytes {a : Option Addr} {len cap : Nat} (ht : P.underlying t = some (.slice e)) (he : P.underlying e = some (.int .u8)) (hk : P.cellsOf e = 1) (h : Rd P w t (Value.slice a len cap).cells.toList) :
    ∃ A : Nat → Nat, IsRow w 1 a len (fun i => [.int .u8 (A i : Int)]) ∧ ∀ i, A i < 256 := by
  obtain ⟨A, h1, h2⟩ := Rd.ints ht he hk h
  have hm : IntKind.u8.min = 0 := rfl
  have hM : IntKind.u8.max = 255 := rfl
  refine ⟨fun i => (A i).toNat, h1.congr fun i _ => ?_, fun i => ?_⟩
  · have := (h2 i).1; rw [hm] at this; rw [Int.toNat_of_nonneg this]
  · have := h2 i; rw [hm, hM] at this; show (A i).toNat < 256; omega
theorem list2 {cs : List Value} {a b : Value} (hl : cs.length = 2) (h0 : (cs.drop 0).take 1 = [a]) (h1 : (cs.drop 1).take 1 = [b]) : cs = [a, b] := by
  match cs, hl with
  | [p, q], _ => simp at h0 h1; rw [h0, h1]
theorem list3 {cs : List Value} {a b c : Value} (hl : cs.length = 3) (h0 : (cs.drop 0).take 1 = [a]) (h1 : (cs.drop 1).take 1 = [b]) (h2 : (cs.drop 2).take 1 = [c]) : cs = [a, b, c] := by
  match cs, hl with
  | [p, q, r], _ => simp at h0 h1 h2; rw [h0, h1, h2]
theorem list4 {cs : List Value} {a b c d : Value} (hl : cs.length = 4) (h0 : (cs.drop 0).take 1 = [a]) (h1 : (cs.drop 1).take 1 = [b]) (h2 : (cs.drop 2).take 1 = [c]) (h3 : (cs.drop 3).take 1 = [d]) : cs = [a, b, c, d] := by
  match cs, hl with
  | [p, q, r, t], _ => simp at h0 h1 h2 h3; rw [h0, h1, h2, h3]
theorem list5 {cs : List Value} {a b c d e : Value} (hl : cs.length = 5) (h0 : (cs.drop 0).take 1 = [a]) (h1 : (cs.drop 1).take 1 = [b]) (h2 : (cs.drop 2).take 1 = [c]) (h3 : (cs.drop 3).take 1 = [d]) (h4 : (cs.drop 4).take 1 = [e]) : cs = [a, b, c, d, e] := by
  match cs, hl with
  | [p, q, r, t, u], _ => simp at h0 h1 h2 h3 h4; rw [h0, h1, h2, h3, h4]
end
end Go.Proofs.Ytklnlomleiebaaa
