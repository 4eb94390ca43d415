/- Plain: graphs as numbers and lists; which are right. -/
namespace Fil
abbrev E := Int × Int × Int

def cmpK (a b : Int) : Int := if a < b then -1 else if b < a then 1 else 0
def orderK (a b : E) : Int := if cmpK a.1 b.1 = 0 then cmpK a.2.1 b.2.1 else cmpK a.1 b.1
def sizesK (n m : Int) : Int := if n < 0 then 1 else if 1048576 < n ∨ 4194304 < m then 4 else 0
def aloneK (n u v x : Int) : Int := if min u v < 0 ∨ n ≤ max u v then 5 else if u = v then 6 else if x ≤ -2147483648 ∨ 2147483648 ≤ x then 8 else 0
def belowB (a b : E) : Bool := decide (a.1 < b.1) || (decide (a.1 = b.1) && decide (a.2.1 < b.2.1))

/-- from edge k on -/
def scan (n : Int) : Option E → List E → Int
  | _, [] => 0
  | p, e :: r =>
    if aloneK n e.1 e.2.1 e.2.2 = 0 then
      if e.2.1 < e.1 then 1
      else match p with
        | none => scan n (some e) r
        | some q => if orderK q e = 0 then 7 else if orderK q e = 1 then 1 else scan n (some e) r
    else aloneK n e.1 e.2.1 e.2.2
def rightK (n : Int) (es : List E) : Int := if sizesK n es.length = 0 then scan n none es else sizesK n es.length

theorem scan_at {n : Int} {es : List E} {k : Nat} {e : E} (he : es[k]? = some e) (p : Option E) : scan n p (es.drop k) = (if aloneK n e.1 e.2.1 e.2.2 = 0 then
      if e.2.1 < e.1 then 1
      else match p with
        | none => scan n (some e) (es.drop (k + 1))
        | some q => if orderK q e = 0 then 7 else if orderK q e = 1 then 1 else scan n (some e) (es.drop (k + 1))
    else aloneK n e.1 e.2.1 e.2.2) := by
  obtain ⟨hlt, rfl⟩ := List.getElem?_eq_some_iff.1 he
  rw [List.drop_eq_getElem_cons hlt]
  cases p <;> rfl
theorem orderK_below (a b : E) : (belowB a b = true ↔ orderK a b = -1) ∧ (belowB b a = true ↔ orderK a b = 1) := by
  simp only [belowB, orderK, cmpK, Bool.or_eq_true, Bool.and_eq_true, decide_eq_true_eq]
  constructor <;> (repeat' split) <;> omega
theorem orderK_range (a b : E) : orderK a b = -1 ∨ orderK a b = 0 ∨ orderK a b = 1 := by
  simp only [orderK, cmpK]
  (repeat' split) <;> omega
end Fil
