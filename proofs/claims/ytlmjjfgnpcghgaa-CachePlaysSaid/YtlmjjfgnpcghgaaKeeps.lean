/- What a cache holds, told by functions of the place; the plain law of CacheKeeps. No condition. -/
import Derived.Test.YtlmjjfgnpcghgaaCacheK
import Derived.Test.YtlmjjfgnpcghgaaBytes
namespace Go.Proofs.Ytlmjjfgnpcghgaa
set_option linter.unusedVariables false
set_option linter.unusedSimpArgs false
open Go.RowKit

def fput {α : Type} (f : Nat → α) (k : Nat) (v : α) : Nat → α := fun t => if t = k then v else f t
theorem fput_same {α : Type} (f : Nat → α) (k : Nat) (v : α) : fput f k v k = v := by simp [fput]
theorem fput_other {α : Type} {f : Nat → α} {k j : Nat} {v : α} (h : j ≠ k) : fput f k v j = f j := by simp [fput, h]
abbrev blkOf (d : Nat → Bool) (q : Nat → Int) (s : Nat → List UInt8) (k : Nat) : Blk := ⟨(k : Int), bvs (s k), d k, q k⟩
structure KInv (n i : Nat) (bs : List Blk) (h : Nat → Bool) (d : Nat → Bool) (q : Nat → Int) (s : Nat → List UInt8) : Prop where
  few : bs.length ≤ n
  mem : ∀ x : Blk, x ∈ bs ↔ ∃ k, k < 16 ∧ h k = true ∧ x = blkOf d q s k
  gone : ∀ k, h k = false → d k = false ∧ q k = 0
  size : ∀ k, h k = true → (s k).length = 512
  pins : ∀ k, 0 ≤ q k ∧ q k ≤ i

section
variable {n i : Nat} {bs : List Blk} {h d : Nat → Bool} {q : Nat → Int} {s : Nat → List UInt8}
theorem KInv.start (n : Nat) : KInv n 0 [] (fun _ => false) (fun _ => false) (fun _ => 0) (fun _ => []) :=
  ⟨by simp, fun x => by simp, fun _ _ => ⟨rfl, rfl⟩, fun _ h => by simp at h, fun _ => by simp⟩
theorem KInv.mono (H : KInv n i bs h d q s) {j : Nat} (hj : i ≤ j) : KInv n j bs h d q s :=
  ⟨H.few, H.mem, H.gone, H.size, fun k => by have := H.pins k; omega⟩
theorem KInv.find (H : KInv n i bs h d q s) {k : Nat} (hk : k < 16) : bs.find? (bhas (k : Int)) = if h k = true then some (blkOf d q s k) else none := by
  by_cases hh : h k = true
  · rw [if_pos hh]
    cases hf : bs.find? (bhas (k : Int)) with
    | none =>
      have := List.find?_eq_none.1 hf _ ((H.mem _).2 ⟨k, hk, hh, rfl⟩)
      simp at this
    | some x =>
      obtain ⟨j, hj, hh2, rfl⟩ := (H.mem x).1 (List.mem_of_find?_eq_some hf)
      have : (j : Int) = k := by simpa using List.find?_some hf
      obtain rfl : j = k := by omega
      rfl
  · rw [if_neg hh, List.find?_eq_none]
    intro x hx
    obtain ⟨j, hj, hh2, rfl⟩ := (H.mem x).1 hx
    simp only [beq_iff_eq]
    intro e
    obtain rfl : j = k := by omega
    exact hh hh2
theorem KInv.blkOk (H : KInv n i bs h d q s) (hn : n ≤ 1000) : BlkOk bs := by
  refine ⟨by have := H.few; omega, fun x hx => ?_⟩
  obtain ⟨k, _, hh, rfl⟩ := (H.mem x).1 hx
  exact ⟨bvs_one _, by simp only [bvs_len, H.size k hh]; omega⟩
theorem KInv.pinsOk (H : KInv n i bs h d q s) (hi : i ≤ 1000) : ∀ x ∈ bs, 0 ≤ x.pins ∧ x.pins < 1000000 := by
  intro x hx
  obtain ⟨k, _, hh, rfl⟩ := (H.mem x).1 hx
  have := H.pins k
  simp only; omega
theorem mem_without {x : Blk} {k : Int} : x ∈ bwithout bs k ↔ x ∈ bs ∧ x.b ≠ k := by
  unfold bwithout; rw [List.mem_filter]; simp
theorem without_less {x : Blk} (hx : x ∈ bs) : (bwithout bs x.b).length + 1 ≤ bs.length := by
  unfold bwithout
  have h1 : (bs.filter fun y => !(y.b == x.b)).length < bs.length := by
    rw [List.length_filter_lt_length_iff_exists]
    exact ⟨x, hx, by simp⟩
  omega
/-- one that is clean and not pinned is let go -/
theorem KInv.lose (H : KInv n i bs h d q s) {j : Nat} (hj : d j = false ∧ q j = 0) : KInv n i (bwithout bs (j : Int)) (fput h j false) d q s := by
  refine ⟨Nat.le_trans (List.length_filter_le _ _) H.few, fun x => ?_, fun k hk => ?_, fun k hk => ?_, H.pins⟩
  · rw [mem_without, H.mem]
    constructor
    · rintro ⟨⟨k, hk, hh, rfl⟩, hne⟩
      have : k ≠ j := fun e => hne (by rw [e])
      exact ⟨k, hk, by rw [fput_other this]; exact hh, rfl⟩
    · rintro ⟨k, hk, hh, rfl⟩
      have : k ≠ j := by rintro rfl; rw [fput_same] at hh; cases hh
      rw [fput_other this] at hh
      exact ⟨⟨k, hk, hh, rfl⟩, fun e => this (by have e' : (k : Int) = (j : Int) := e; omega)⟩
  · by_cases e : k = j
    · subst e; exact hj
    · rw [fput_other e] at hk; exact H.gone k hk
  · by_cases e : k = j
    · subst e; rw [fput_same] at hk; cases hk
    · rw [fput_other e] at hk; exact H.size k hk
/-- one comes in -/
theorem KInv.add (H : KInv n i bs h d q s) {k : Nat} (hk : k < 16) (hh : h k = false) {dat : List UInt8} (hd : dat.length = 512) (hl : bs.length + 1 ≤ n) :
    KInv n i (bs ++ [⟨(k : Int), bvs dat, false, 0⟩]) (fput h k true) d q (fput s k dat) := by
  obtain ⟨g1, g2⟩ := H.gone k hh
  refine ⟨by simpa using hl, fun x => ?_, fun j hj => ?_, fun j hj => ?_, H.pins⟩
  · rw [List.mem_append, List.mem_singleton, H.mem]
    constructor
    · rintro (⟨j, hj, hj2, rfl⟩ | rfl)
      · have : j ≠ k := by rintro rfl; rw [hh] at hj2; cases hj2
        exact ⟨j, hj, by rw [fput_other this]; exact hj2, by simp only [blkOf, fput_other this]⟩
      · exact ⟨k, hk, fput_same _ _ _, by simp only [blkOf, fput_same, g1, g2]⟩
    · rintro ⟨j, hj, hj2, rfl⟩
      by_cases e : j = k
      · subst e; right; simp only [blkOf, fput_same, g1, g2]
      · rw [fput_other e] at hj2
        exact .inl ⟨j, hj, hj2, by simp only [blkOf, fput_other e]⟩
  · by_cases e : j = k
    · subst e; rw [fput_same] at hj; cases hj
    · rw [fput_other e] at hj; exact H.gone j hj
  · by_cases e : j = k
    · subst e; rw [fput_same]; exact hd
    · rw [fput_other e] at hj ⊢; exact H.size j hj
theorem mem_upd {x : Blk} {k : Int} {f : Blk → Blk} : x ∈ bupd bs k f ↔ ∃ y ∈ bs, x = if y.b = k then f y else y := by
  unfold bupd
  rw [List.mem_map]
  constructor
  · rintro ⟨y, hy, rfl⟩; exact ⟨y, hy, by simp⟩
  · rintro ⟨y, hy, rfl⟩; exact ⟨y, hy, by simp⟩
theorem upd_length (k : Int) (f : Blk → Blk) : (bupd bs k f).length = bs.length := by simp [bupd]
theorem KInv.upd (H : KInv n i bs h d q s) {k : Nat} (hh : h k = true) {f : Blk → Blk} {d' : Nat → Bool} {q' : Nat → Int} {i' : Nat} (hf : f (blkOf d q s k) = blkOf d' q' s k)
    (hd : ∀ j, j ≠ k → d' j = d j) (hq : ∀ j, j ≠ k → q' j = q j) (hp : ∀ j, 0 ≤ q' j ∧ q' j ≤ i') : KInv n i' (bupd bs (k : Int) f) h d' q' s := by
  refine ⟨by rw [upd_length]; exact H.few, fun x => ?_, fun j hj => ?_, H.size, hp⟩
  · rw [mem_upd]
    constructor
    · rintro ⟨y, hy, rfl⟩
      obtain ⟨j, hj, hj2, rfl⟩ := (H.mem y).1 hy
      by_cases e : j = k
      · subst e; rw [if_pos rfl, hf]; exact ⟨j, hj, hj2, rfl⟩
      · rw [if_neg (by show ¬ (j : Int) = (k : Int); omega)]
        exact ⟨j, hj, hj2, by simp only [blkOf, hd j e, hq j e]⟩
    · rintro ⟨j, hj, hj2, rfl⟩
      refine ⟨blkOf d q s j, (H.mem _).2 ⟨j, hj, hj2, rfl⟩, ?_⟩
      by_cases e : j = k
      · subst e; rw [if_pos rfl, hf]
      · rw [if_neg (by show ¬ (j : Int) = (k : Int); omega)]
        simp only [blkOf, hd j e, hq j e]
  · have e : j ≠ k := by rintro rfl; rw [hh] at hj; cases hj
    rw [hd j e, hq j e]; exact H.gone j hj
/-- moved to the end -/
theorem KInv.move (H : KInv n i bs h d q s) {k : Nat} (hk : k < 16) (hh : h k = true) {dat : List UInt8} (hd : dat.length = 512) : KInv n i (bwithout bs (k : Int) ++ [⟨(k : Int), bvs dat, d k, q k⟩]) h d q (fput s k dat) := by
  refine ⟨?_, fun x => ?_, H.gone, fun j hj => ?_, H.pins⟩
  · have := without_less ((H.mem _).2 ⟨k, hk, hh, rfl⟩)
    have h2 := H.few
    simp only [List.length_append, List.length_singleton]
    simp only at this
    omega
  · rw [List.mem_append, List.mem_singleton, mem_without, H.mem]
    constructor
    · rintro (⟨⟨j, hj, hj2, rfl⟩, hne⟩ | rfl)
      · have : j ≠ k := fun e => hne (by rw [e])
        exact ⟨j, hj, hj2, by simp only [blkOf, fput_other this]⟩
      · exact ⟨k, hk, hh, by simp only [blkOf, fput_same]⟩
    · rintro ⟨j, hj, hj2, rfl⟩
      by_cases e : j = k
      · subst e; right; simp only [blkOf, fput_same]
      · exact .inl ⟨⟨j, hj, hj2, by simp only [blkOf, fput_other e]⟩, fun e2 => e (by have e' : (j : Int) = (k : Int) := e2; omega)⟩
  · by_cases e : j = k
    · subst e; rw [fput_same]; exact hd
    · rw [fput_other e]; exact H.size j hj

theorem KInv.lay (H : KInv n i bs h d q s) {k : Nat} (hk : k < 16) {dat : List UInt8} (hd : dat.length = 512) :
    (∃ e, e ≠ 0 ∧ blay (n : Int) bs (k : Int) (bvs dat) = (e, bs)) ∨ ∃ bs' h', blay (n : Int) bs (k : Int) (bvs dat) = (0, bs') ∧ KInv n i bs' h' d q (fput s k dat) ∧ h' k = true := by
  unfold blay
  rw [H.find hk]
  by_cases hh : h k = true
  · rw [if_pos hh]
    exact .inr ⟨_, h, rfl, H.move hk hh hd, hh⟩
  · rw [if_neg hh]
    have hh0 : h k = false := by simpa using hh
    unfold broom
    by_cases hl : (bs.length : Int) < n
    · rw [if_pos hl]
      exact .inr ⟨_, _, rfl, H.add hk hh0 hd (by omega), fput_same _ _ _⟩
    · rw [if_neg hl]
      cases hf : bs.find? bfree with
      | none => exact .inl ⟨7, by omega, rfl⟩
      | some x =>
        have hx := List.mem_of_find?_eq_some hf
        have hfr := List.find?_some hf
        obtain ⟨j, hj, hj2, rfl⟩ := (H.mem x).1 hx
        have hfr2 : d j = false ∧ q j = 0 := by simpa [bfree] using hfr
        have hjk : j ≠ k := by rintro rfl; rw [hh0] at hj2; cases hj2
        have hless := without_less hx
        have H2 := H.lose hfr2
        refine .inr ⟨_, _, rfl, H2.add hk (by rw [fput_other (Ne.symm hjk)]; exact hh0) hd ?_, fput_same _ _ _⟩
        have := H.few
        simp only at hless
        omega
theorem KInv.fill (H : KInv n i bs h d q s) {k : Nat} (hk : k < 16) {dat : List UInt8} (hd : dat.length = 512) :
    (∃ e, e ≠ 0 ∧ bfill (n : Int) bs (k : Int) (bvs dat) = (e, bs)) ∨ ∃ bs' h', bfill (n : Int) bs (k : Int) (bvs dat) = (0, bs') ∧ KInv n i bs' h' d q (fput s k dat) := by
  unfold bfill
  rw [if_neg (by omega), if_neg (by simp only [bvs_len]; omega), H.find hk]
  by_cases hh : h k = true
  · rw [if_pos hh]; exact .inl ⟨8, by omega, rfl⟩
  · rw [if_neg hh]
    rcases H.lay hk hd with h1 | ⟨bs', h', h1, h2, _⟩
    · exact .inl (by simpa using h1)
    · exact .inr ⟨bs', h', by simpa using h1, h2⟩
theorem KInv.put (H : KInv n i bs h d q s) {k : Nat} (hk : k < 16) {dat : List UInt8} (hd : dat.length = 512) :
    (∃ e, e ≠ 0 ∧ bput (n : Int) bs (k : Int) (bvs dat) = (e, bs)) ∨ ∃ bs' h', bput (n : Int) bs (k : Int) (bvs dat) = (0, bs') ∧ KInv n i bs' h' (fput d k true) q (fput s k dat) := by
  unfold bput
  rw [if_neg (by omega), if_neg (by simp only [bvs_len]; omega)]
  rcases H.lay hk hd with ⟨e, he, h1⟩ | ⟨bs', h', h1, h2, h3⟩
  · rw [h1]; exact .inl ⟨e, he, by simp [he]⟩
  · rw [h1]
    refine .inr ⟨bupd bs' (k : Int) (fun x => { x with dirty := true }), h', by simp, h2.upd h3 (f := fun x => { x with dirty := true }) ?_ (fun j hj => fput_other hj) (fun _ _ => rfl) H.pins⟩
    simp only [blkOf, fput_same]
theorem KInv.pin (H : KInv n i bs h d q s) {k : Nat} (hk : k < 16) :
    (∃ e, e ≠ 0 ∧ bpin bs (k : Int) = (e, bs)) ∨ ∃ bs', bpin bs (k : Int) = (0, bs') ∧ KInv n (i + 1) bs' h d (fput q k (q k + 1)) s := by
  unfold bpin
  rw [H.find hk]
  by_cases hh : h k = true
  · rw [if_pos hh]
    refine .inr ⟨_, rfl, H.upd hh ?_ (fun _ _ => rfl) (fun j hj => fput_other hj) (fun j => ?_)⟩
    · simp only [blkOf, fput_same]
    · have := H.pins j
      have h2 := H.pins k
      unfold fput; split <;> push_cast <;> omega
  · rw [if_neg hh]; exact .inl ⟨17, by omega, rfl⟩
theorem KInv.unpin (H : KInv n i bs h d q s) {k : Nat} (hk : k < 16) :
    (∃ e, e ≠ 0 ∧ bunpin bs (k : Int) = (e, bs)) ∨ ∃ bs', bunpin bs (k : Int) = (0, bs') ∧ 1 ≤ q k ∧ KInv n i bs' h d (fput q k (q k - 1)) s := by
  unfold bunpin
  rw [H.find hk]
  by_cases hh : h k = true
  · rw [if_pos hh]
    simp only
    have h2 := H.pins k
    by_cases hq : q k = 0
    · rw [if_pos (by simpa using hq)]; exact .inl ⟨1, by omega, rfl⟩
    · rw [if_neg (by simpa using hq)]
      refine .inr ⟨_, rfl, by omega, H.upd hh ?_ (fun _ _ => rfl) (fun j hj => fput_other hj) (fun j => ?_)⟩
      · simp only [blkOf, fput_same]
      · have := H.pins j
        unfold fput; split <;> omega
  · rw [if_neg hh]; exact .inl ⟨17, by omega, rfl⟩
theorem KInv.clean (H : KInv n i bs h d q s) {k : Nat} (hk : k < 16) :
    (∃ e, e ≠ 0 ∧ bclean bs (k : Int) = (e, bs)) ∨ ∃ bs', bclean bs (k : Int) = (0, bs') ∧ KInv n i bs' h (fput d k false) q s := by
  unfold bclean
  rw [H.find hk]
  by_cases hh : h k = true
  · rw [if_pos hh]
    refine .inr ⟨_, rfl, H.upd hh ?_ (fun j hj => fput_other hj) (fun _ _ => rfl) H.pins⟩
    simp only [blkOf, fput_same]
  · rw [if_neg hh]; exact .inl ⟨17, by omega, rfl⟩
theorem KInv.drop (H : KInv n i bs h d q s) {k : Nat} (hk : k < 16) :
    (∃ e, e ≠ 0 ∧ bdrop bs (k : Int) = (e, bs)) ∨ ∃ bs' h', bdrop bs (k : Int) = (0, bs') ∧ d k = false ∧ q k = 0 ∧ KInv n i bs' h' d q s := by
  unfold bdrop
  rw [H.find hk]
  by_cases hh : h k = true
  · rw [if_pos hh]
    simp only
    by_cases hf : bfree (blkOf d q s k) = true
    · rw [if_pos hf]
      have hfr : d k = false ∧ q k = 0 := by simpa [bfree] using hf
      exact .inr ⟨_, _, rfl, hfr.1, hfr.2, H.lose hfr⟩
    · rw [if_neg hf]; exact .inl ⟨8, by omega, rfl⟩
  · rw [if_neg hh]; exact .inl ⟨17, by omega, rfl⟩
theorem KInv.get (H : KInv n i bs h d q s) {k : Nat} (hk : k < 16) :
    (h k = false ∧ bget bs (k : Int) = (17, bs) ∧ bdata bs (k : Int) = []) ∨ ∃ bs', h k = true ∧ bget bs (k : Int) = (0, bs') ∧ bdata bs (k : Int) = bvs (s k) ∧ KInv n i bs' h d q s := by
  unfold bget bdata
  rw [H.find hk]
  by_cases hh : h k = true
  · rw [if_pos hh]
    refine .inr ⟨_, hh, rfl, rfl, ?_⟩
    have := H.move hk hh (H.size k hh)
    have e : fput s k (s k) = s := by funext t; unfold fput; split
                                      · rename_i e; rw [e]
                                      · rfl
    rw [e] at this
    exact this
  · rw [if_neg hh]; exact .inl ⟨by simpa using hh, rfl, rfl⟩
/-- what Held tells -/
theorem KInv.heldAt (H : KInv n i bs h d q s) {k : Nat} (hk : k < 16) : (k : Int) ∈ bs.map (·.b) ↔ h k = true := by
  rw [List.mem_map]
  constructor
  · rintro ⟨x, hx, e⟩
    obtain ⟨j, hj, hh, rfl⟩ := (H.mem x).1 hx
    obtain rfl : j = k := by simp only at e; omega
    exact hh
  · intro hh; exact ⟨_, (H.mem _).2 ⟨k, hk, hh, rfl⟩, rfl⟩
/-- what Dirty tells -/
theorem KInv.dirtyAt (H : KInv n i bs h d q s) {k : Nat} (hk : k < 16) : (k : Int) ∈ (bs.filter (·.dirty)).map (·.b) ↔ d k = true := by
  rw [List.mem_map]
  constructor
  · rintro ⟨x, hx, e⟩
    obtain ⟨hx1, hx2⟩ := List.mem_filter.1 hx
    obtain ⟨j, hj, hh, rfl⟩ := (H.mem x).1 hx1
    obtain rfl : j = k := by simp only at e; omega
    exact hx2
  · intro hd
    have hh : h k = true := by
      cases hh : h k with
      | true => rfl
      | false => rw [(H.gone k hh).1] at hd; cases hd
    exact ⟨_, List.mem_filter.2 ⟨(H.mem _).2 ⟨k, hk, hh, rfl⟩, hd⟩, rfl⟩
theorem KInv.dirtyHeld (H : KInv n i bs h d q s) {k : Nat} (hd : d k = true ∨ 0 < q k) : h k = true := by
  cases hh : h k with
  | true => rfl
  | false =>
    obtain ⟨g1, g2⟩ := H.gone k hh
    rcases hd with hd | hd
    · rw [g1] at hd; cases hd
    · omega
end
end Go.Proofs.Ytlmjjfgnpcghgaa
