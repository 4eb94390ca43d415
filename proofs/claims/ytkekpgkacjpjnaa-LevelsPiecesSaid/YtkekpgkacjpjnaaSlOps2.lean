/- More of what only computes: booleans compared. -/
import Derived.Test.YtkekpgkacjpjnaaSlTame
import Derived.Test.YtkekpgkacjpjnaaSlMore
set_option linter.unusedVariables false
set_option linter.unusedSimpArgs false
namespace Go.Sl
open Go Go.RowKit
/-- a type of booleans -/
class BoTy (P : Program) (t : TypeId) : Prop where
  u : P.underlying t = some .bool
section
variable {P : Program} {w0 : World} {S0 : FS} {n : Nat} {F : List (Nat × Value)} {L : List HP} {o : Oper} {x y : Operand} {t t' : TypeId} {p q : Bool}
theorem q_eqlb [T : BoTy P t] (ho : o.op = .binOp .eql t x y t') (hx : ev F x = some (.bool p)) (hy : ev F y = some (.bool q)) : R1 P w0 S0 n F L o (.bool (decide (p = q))) :=
  q_of_pure fun a hf w => by
    have e := run_equal_bool (P := P) (w := w) t p q T.u
    simp only [execOp, ho, hf.eval hx, hf.eval hy, eqGuard, binOp]
    simp [e]
    cases p <;> cases q <;> rfl
theorem q_neqb [T : BoTy P t] (ho : o.op = .binOp .neq t x y t') (hx : ev F x = some (.bool p)) (hy : ev F y = some (.bool q)) : R1 P w0 S0 n F L o (.bool (decide (p ≠ q))) :=
  q_of_pure fun a hf w => by
    have e := run_equal_bool (P := P) (w := w) t p q T.u
    simp only [execOp, ho, hf.eval hx, hf.eval hy, eqGuard, binOp]
    simp [e]
    cases p <;> cases q <;> rfl
end
end Go.Sl
