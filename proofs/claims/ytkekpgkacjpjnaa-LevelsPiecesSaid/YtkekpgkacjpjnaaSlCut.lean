/- Cuts: where several ways meet. -/
import Derived.Test.YtkekpgkacjpjnaaSlTame
set_option linter.unusedVariables false
set_option linter.unusedSimpArgs false
namespace Go.Sl
open Go Go.RowKit

section
variable {P : Program} {w0 : World} {S0 : FS} {n : Nat} {F : List (Nat × Value)} {L Lk : List HP} {Q : Exit → Act → World → Prop}
/-! a cut: where several ways meet -/
def cutQ {X : Type} (w0 : World) (S0 : FS) (n : Nat) (I : X → Prop) (IF : X → List (Nat × Value)) (IL : X → List HP) (Q : Exit → Act → World → Prop) : Exit → Act → World → Prop
  | .normal, a, w => ∃ x, I x ∧ Fr (IF x) n a ∧ St w0 S0 (IL x) w
  | e, a, w => Q e a w
instance {X : Type} {I : X → Prop} {IF : X → List (Nat × Value)} {IL : X → List HP} [T : PO Q] : PO (cutQ w0 S0 n I IF IL Q) := ⟨fun c a d v w h => T.ok c a d v w h⟩
theorem c_cut {X : Type} {c : Code} (I : X → Prop) (IF : X → List (Nat × Value)) (IL : X → List HP) (h : Reach w0 S0 n F L (c.wp P (cutQ w0 S0 n I IF IL Q))) (h' : ∀ x, I x → Reach w0 S0 n (IF x) (IL x) (Q .normal)) : Reach w0 S0 n F L (c.wp P Q) := by
  intro a w hf hs
  refine Code.wp_mono ?_ (h a w hf hs)
  intro e a w he
  cases e with
  | normal =>
    obtain ⟨x, hI, hF, hS⟩ := he
    exact h' x hI a w hF hS
  | _ => exact he
theorem cut_end {X : Type} {I : X → Prop} {IF : X → List (Nat × Value)} {IL : X → List HP} (x : X) (is : List Nat) (hL : pick L is = some (IL x)) (hF : covers F (IF x)) (hI : I x) : Reach w0 S0 n F L (cutQ w0 S0 n I IF IL Q .normal) :=
  fun _ _ hf hs => ⟨x, hI, hf.weaken (covers_spec hF), hs.pick is hL⟩

end
end Go.Sl
