/- Resources found and put in order by instances. No condition. -/
import Derived.Test.YtklnlomleiebaaaSlice
namespace Go.Proofs.Ytklnlomleiebaaa
set_option linter.unusedVariables false
set_option linter.unusedSimpArgs false

/-- the list l holds P; r is the rest -/
class Pull (l : List HP) (P : HP) (r : outParam (List HP)) : Prop where
  pull : ∀ {e : Env} {h : PH}, Holds e l h → Holds e (P :: r) h
/-- all of l' stands in l -/
class Sub (l l' : List HP) : Prop where
  sub : ∀ {e : Env} {h : PH}, Holds e l h → Holds e l' h

section
variable {l r r' s t : List HP} {P Q R : HP} {w : World}
instance (priority := 1000) pull_here : Pull (P :: l) P l := ⟨fun h => h⟩
instance (priority := 900) pull_there [q : Pull l P r] : Pull (Q :: l) P (Q :: r) := ⟨fun h => (h.cons fun _ k => q.pull k).swap⟩
instance (priority := 1000) sub_refl : Sub l l := ⟨fun h => h⟩
instance (priority := 990) sub_nil : Sub l [] := ⟨fun _ => trivial⟩
instance (priority := 900) sub_cons [p : Pull l P r] [s : Sub r t] : Sub l (P :: t) := ⟨fun h => (p.pull h).cons fun _ k => s.sub k⟩
instance (priority := 800) sub_drop [s : Sub l t] : Sub (Q :: l) t := ⟨fun h => s.sub (by obtain ⟨h1, h2, _, a, _, _, b⟩ := h; exact Holds.weaken a b)⟩

theorem SatL.to [q : Sub l r] (h : SatL w l) : SatL w r := q.sub h
theorem SatL.t1 [p : Pull l P r] (h : SatL w l) : SatL w (P :: r) := p.pull h
theorem SatL.t2 [p : Pull l P r] [q : Pull r Q s] (h : SatL w l) : SatL w (P :: Q :: s) := (p.pull h : Holds _ _ _).cons fun _ k => q.pull k
theorem SatL.t3 [p : Pull l P r] [q : Pull r Q s] [q' : Pull s R t] (h : SatL w l) : SatL w (P :: Q :: R :: t) := (p.pull h : Holds _ _ _).cons fun _ k => (q.pull k).cons fun _ k => q'.pull k

theorem SatL.p1 {A B : HP} (h : SatL w (A :: B :: l)) : SatL w (B :: A :: l) := h.swap
theorem SatL.p2 {A B C : HP} (h : SatL w (A :: B :: C :: l)) : SatL w (C :: A :: B :: l) := h.pull 2
theorem SatL.p3 {A B C D : HP} (h : SatL w (A :: B :: C :: D :: l)) : SatL w (D :: A :: B :: C :: l) := h.pull 3
theorem SatL.p4 {A B C D E : HP} (h : SatL w (A :: B :: C :: D :: E :: l)) : SatL w (E :: A :: B :: C :: D :: l) := h.pull 4
theorem SatL.p5 {A B C D E F : HP} (h : SatL w (A :: B :: C :: D :: E :: F :: l)) : SatL w (F :: A :: B :: C :: D :: E :: l) := h.pull 5
theorem SatL.p6 {A B C D E F G : HP} (h : SatL w (A :: B :: C :: D :: E :: F :: G :: l)) : SatL w (G :: A :: B :: C :: D :: E :: F :: l) := h.pull 6
theorem SatL.p7 {A B C D E F G H : HP} (h : SatL w (A :: B :: C :: D :: E :: F :: G :: H :: l)) : SatL w (H :: A :: B :: C :: D :: E :: F :: G :: l) := h.pull 7
end

example {w : World} {A B C : HP} {l : List HP} (h : SatL w (A :: B :: C :: l)) : SatL w (C :: B :: l) := h.to
example {w : World} {A B C : HP} {l : List HP} (h : SatL w (A :: B :: C :: l)) : SatL w l := h.to
example {w : World} {A B C : HP} {l : List HP} (h : SatL w (A :: B :: C :: l)) : SatL w (C :: B :: A :: l) := h.to
end Go.Proofs.Ytklnlomleiebaaa
