/- The calls of a queue in which chains are under way, each whole: what each answers and leaves. No condition beside the sizes that each names. -/
import Derived.Test.YtnniipeoahpkcaaVqQ
import Derived.Test.YtnniipeoahpkcaaVqS
import Derived.Test.YtnniipeoahpkcaaLawRound
namespace Go.Proofs.Ytnniipeoahpkcaa
set_option linter.unusedVariables false
set_option linter.unusedSimpArgs false
open Go.RowKit
section
variable {w : World} {X : List HP} {db vb mb n z cn : Nat} {d : Dr} {r : Ring} {m : List UInt8} {Q : List Ent} {e : Ent}
abbrev mvZ (mb z : Nat) : Value := .slice (some ⟨mb, 0, none⟩) z z
theorem OInv.msz (h : OInv n d r m Q cn) (hp : pow2 n = true) : m.length ≤ 1000000 := by
  have := pow2_le hp; rw [h.ml]; unfold qs; omega
theorem add_c {s k lc : Nat} {la : Option Addr} (hp : pow2 n = true) (hk : 1 ≤ k) (hs : s + k ≤ 1000000) (h : OInv n d r m Q cn) (hf : k ≤ free d.busy) (hw : SatL w (DrvR db mb 0 d :: SlB 5 (mvZ mb z) m :: BufR (.slice la k lc) (bufsOf s k) :: X)) :
    Calls Try.prog 12 #[.pointer (some ⟨db, 0, none⟩), .slice la k lc] w (Ret fun v w' => ∃ (c : List Nat) (d' : Dr) (m' : List UInt8), c.length = k ∧ v = .tuple #[.int .i64 ((⟨c, s⟩ : Ent).head : Nat), .int .i64 0] ∧ OInv n d' r m' (Q ++ [⟨c, s⟩]) cn ∧ SatL w' (DrvR db mb 0 d' :: SlB 5 (mvZ mb z) m' :: BufR (.slice la k lc) (bufsOf s k) :: X)) := by
  obtain ⟨c, h1, h2, h3, h4⟩ := add_inv hp hk hs h hf
  have k1 := add_ok (l := bufsOf s k) (cc := lc) (a := la) (h.dok hp).1 (h.msz hp) hw (by
    intro x hx
    obtain ⟨j, hj, rfl⟩ := List.mem_map.1 hx
    have := List.mem_range.1 hj
    show (((s + j : Nat)) : Int) ≤ _
    omega) (fun w' h' => BufR.brow h')
  rw [bufsOf_len] at k1
  refine k1.mono ?_
  rintro e w2 ⟨v, rfl, rfl, hs2⟩
  exact Ret.mk ⟨c, _, _, h1, by rw [h2, h3], h4, hs2⟩
theorem add_f {s k lc : Nat} {la : Option Addr} (hp : pow2 n = true) (hk : 1 ≤ k) (hkb : k ≤ 256) (hs : s + k ≤ 1000000) (h : OInv n d r m Q cn) (hf : free d.busy < k) (hw : SatL w (DrvR db mb 0 d :: SlB 5 (mvZ mb z) m :: BufR (.slice la k lc) (bufsOf s k) :: X)) :
    Calls Try.prog 12 #[.pointer (some ⟨db, 0, none⟩), .slice la k lc] w (Ret fun v w' => v = .tuple #[.int .i64 0, .int .i64 7] ∧ SatL w' (DrvR db mb 0 d :: SlB 5 (mvZ mb z) m :: BufR (.slice la k lc) (bufsOf s k) :: X)) := by
  have k1 := add_ok (l := bufsOf s k) (cc := lc) (a := la) (h.dok hp).1 (h.msz hp) hw (by
    intro x hx
    obtain ⟨j, hj, rfl⟩ := List.mem_map.1 hx
    have := List.mem_range.1 hj
    show (((s + j : Nat)) : Int) ≤ _
    omega) (fun w' h' => BufR.brow h')
  have hfull := add_full (d := d) (m := m) (l := bufsOf s k) (by rw [bufsOf_len]; omega) (bufsOf_good s k (by omega)) (by rw [bufsOf_len]; exact hf)
  rw [bufsOf_len, hfull] at k1
  exact k1
theorem OInv.small (h : OInv n d r m (e :: Q) cn) (hp : pow2 n = true) : 1 ≤ e.c.length ∧ e.c.length ≤ n ∧ e.head < n := by
  have hfr := h.free
  have hne := h.ne e List.mem_cons_self
  have : (flat (e :: Q)).length = e.c.length + (flat Q).length := by unfold flat; rw [List.flatMap_cons, List.length_append]
  exact ⟨List.length_pos_iff.2 hne, by omega, h.lt _ (mem_flat.2 ⟨e, List.mem_cons_self, head_mem hne⟩)⟩
theorem take_c (hp : pow2 n = true) (h : OInv n d r m (e :: Q) cn) (hs : e.s + e.c.length ≤ 1000000) (hw : SatL w (DevR vb mb 0 r :: SlB 5 (mvZ mb z) m :: X)) :
    Calls Try.prog 13 #[.pointer (some ⟨vb, 0, none⟩)] w (Ret fun v w' => ∃ b o c, v = .tuple #[.int .i64 (e.head : Nat), .slice (some ⟨b, o, none⟩) e.c.length c, .int .i64 0] ∧ e.c.length ≤ c ∧ c ≤ 9223372036854775807 ∧ w'.cell? ⟨b, o, none⟩ = some (.int .i64 (e.s : Nat)) ∧ SatL w' (BufR (.slice (some ⟨b, o, none⟩) e.c.length c) (bufsOf e.s e.c.length) :: DevR vb mb 0 ⟨0, n, (cn + 1) % 65536, cn % 65536⟩ :: SlB 5 (mvZ mb z) m :: X)) := by
  have ht := take_front hp h hs
  obtain ⟨hk1, hk2, _⟩ := h.small hp
  refine (take_ok (h.dok hp).2 (h.msz hp) hw).mono ?_
  rintro e' w2 ⟨v, rfl, lv, rfl, h2⟩
  rw [ht] at h2 ⊢
  have h3 : SatL w2 (SlK 36 3 lv (bufsOf e.s e.c.length).length (bufV (bufsOf e.s e.c.length)) :: DevR vb mb 0 ⟨0, n, (cn + 1) % 65536, cn % 65536⟩ :: SlB 5 (mvZ mb z) m :: X) := h2
  rw [bufsOf_len] at h3
  rcases SlK.form h3 with ⟨_, h0, _⟩ | ⟨b, o, c, rfl, c1, c2, _⟩
  · omega
  · have hc := SlK.cell h3 (bufV_get (bufsOf_get (s := e.s) (j := 0) hk1)).1
    refine Ret.mk ⟨b, o, c, rfl, c1, by unfold maxLen at c2; omega, by simpa [bufOf] using hc, ?_⟩
    show SatL w2 (SlK _ _ _ _ _ :: _)
    rw [bufsOf_len]; exact h3
def gaveM (n cn : Nat) (e : Ent) (m : List UInt8) : List UInt8 := ((⟨0, n, (cn + 1) % 65536, cn % 65536⟩ : Ring).give m e.head e.c.length).m
theorem give_c (hp : pow2 n = true) (h : OInv n d r m (e :: Q) cn) (hs : e.s + e.c.length ≤ 1000000) (hw : SatL w (DevR vb mb 0 ⟨0, n, (cn + 1) % 65536, cn % 65536⟩ :: SlB 5 (mvZ mb z) m :: X)) :
    Calls Try.prog 14 #[.pointer (some ⟨vb, 0, none⟩), .int .i64 (e.head : Nat), .int .i64 (e.c.length : Nat)] w (Ret fun v w' => v = .int .i64 0 ∧ SatL w' (DevR vb mb 0 ⟨0, n, (cn + 1) % 65536, (cn + 1) % 65536⟩ :: SlB 5 (mvZ mb z) (gaveM n cn e m) :: X)) := by
  have hd := (drain_inv hp h hs).1
  obtain ⟨hk1, hk2, hk3⟩ := h.small hp
  have hn := pow2_le hp
  have hrg : RgOk ⟨0, n, (cn + 1) % 65536, cn % 65536⟩ m.length := ⟨hp, by show 0 + qs n ≤ _; rw [h.ml]; omega, Nat.mod_lt _ (by omega), Nat.mod_lt _ (by omega)⟩
  refine (give_ok (h := (e.head : Nat)) (l := (e.c.length : Nat)) hrg (by omega) hw).mono ?_
  rintro e' w2 ⟨v, rfl, rfl, h2⟩
  have e1 := congrArg Gave.e hd
  have e2 := congrArg Gave.r hd
  simp only at e1 e2
  rw [e2] at h2
  rw [e1]
  exact Ret.mk ⟨rfl, h2⟩
theorem used_c (hp : pow2 n = true) (h : OInv n d r m (e :: Q) cn) (hs : e.s + e.c.length ≤ 1000000) (hw : SatL w (DrvR db mb 0 d :: SlB 5 (mvZ mb z) (gaveM n cn e m) :: X)) :
    Calls Try.prog 15 #[.pointer (some ⟨db, 0, none⟩)] w (Ret fun v w' => ∃ d', v = .tuple #[.int .i64 (e.head : Nat), .int .i64 (e.c.length : Nat), .int .i64 0] ∧ OInv n d' ⟨0, n, (cn + 1) % 65536, (cn + 1) % 65536⟩ (gaveM n cn e m) Q (cn + 1) ∧ SatL w' (DrvR db mb 0 d' :: SlB 5 (mvZ mb z) (gaveM n cn e m) :: X)) := by
  obtain ⟨_, f1, f2, f3, f4⟩ := drain_inv hp h hs
  have hml : (gaveM n cn e m).length = m.length := by rw [h.ml]; exact f4.ml
  have hok : DrOk d (gaveM n cn e m).length := by rw [hml]; exact (h.dok hp).1
  refine (used_ok hok hw).mono ?_
  rintro e' w2 ⟨v, rfl, rfl, h2⟩
  refine Ret.mk ⟨(d.used (gaveM n cn e m)).d, ?_, f4, h2⟩
  show Value.tuple #[.int .i64 ((d.used (gaveM n cn e m)).h : Nat), .int .i64 ((d.used (gaveM n cn e m)).l : Nat), .int .i64 (d.used (gaveM n cn e m)).e] = _
  unfold gaveM
  rw [f1, f2, f3]
theorem take_e (hp : pow2 n = true) (h : OInv n d r m [] cn) (hw : SatL w (DevR vb mb 0 r :: SlB 5 (mvZ mb z) m :: X)) :
    Calls Try.prog 13 #[.pointer (some ⟨vb, 0, none⟩)] w (Ret fun v w' => ∃ lv, v = .tuple #[.int .i64 0, lv, .int .i64 2] ∧ SatL w' (DevR vb mb 0 r :: SlB 5 (mvZ mb z) m :: X)) := by
  have ht := (empty_says h).1
  refine (take_ok (h.dok hp).2 (h.msz hp) hw).mono ?_
  rintro e' w2 ⟨v, rfl, lv, rfl, h2⟩
  rw [ht] at h2 ⊢
  exact Ret.mk ⟨lv, rfl, SatL.tail h2⟩
theorem used_e (hp : pow2 n = true) (h : OInv n d r m [] cn) (hw : SatL w (DrvR db mb 0 d :: SlB 5 (mvZ mb z) m :: X)) :
    Calls Try.prog 15 #[.pointer (some ⟨db, 0, none⟩)] w (Ret fun v w' => v = .tuple #[.int .i64 0, .int .i64 0, .int .i64 2] ∧ SatL w' (DrvR db mb 0 d :: SlB 5 (mvZ mb z) m :: X)) := by
  have ht := (empty_says h).2.1
  have := used_ok (h.dok hp).1 hw
  rw [ht] at this
  exact this
theorem fly_e (hp : pow2 n = true) (h : OInv n d r m [] cn) (hw : SatL w (DrvR db mb 0 d :: X)) :
    Calls Try.prog 22 #[.pointer (some ⟨db, 0, none⟩)] w (Ret fun v w' => ∃ a c, v = .slice a 0 c ∧ SatL w' (DrvR db mb 0 d :: X)) := by
  have hno := (empty_says h).2.2.2
  have hn := pow2_le hp
  have hfl : d.fly = [] := by
    unfold Dr.fly Dr.flyN
    rw [List.map_eq_nil_iff, List.filter_eq_nil_iff]
    intro i _; rw [hno]; simp
  refine (flying_ok (fun k c hk => by rw [hno] at hk; cases hk) (by rw [h.dr]; show n ≤ 1000; omega) hw).mono ?_
  rintro e' w2 ⟨v, rfl, h2⟩
  rw [hfl] at h2
  obtain ⟨a, c, rfl, _, _⟩ := Sl.valn h2 (m := 0) rfl
  exact Ret.mk ⟨a, c, rfl, SatL.tail h2⟩
end
end Go.Proofs.Ytnniipeoahpkcaa
