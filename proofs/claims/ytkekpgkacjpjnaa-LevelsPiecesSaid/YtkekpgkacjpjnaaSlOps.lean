/- The rules of a walk, operation by operation: what only computes or reads. -/
import Derived.Test.YtkekpgkacjpjnaaSlCore
set_option linter.unusedVariables false
set_option linter.unusedSimpArgs false
namespace Go.Sl
open Go Go.RowKit

/-! what is asked of types and functions: found by the numbers -/
class SlTy (P : Program) (t : TypeId) (e : outParam TypeId) (z : outParam Value) (sz bytes : outParam Nat) : Prop where
  u : P.underlying t = some (.slice e)
  info : (P.info? e).map (fun i => (i.zero, i.size, i.bytes)) = some (some z, sz, bytes)
  size : ∀ w, (sizeOf e).run P w = .ok sz w
  zs : z.cells.size = sz
  pos : 0 < sz
  bpos : 0 < bytes
class ScTy (P : Program) (t : TypeId) : Prop where
  agg : ∀ w, (isAgg t).run P w = .ok false w
  size : ∀ w, (sizeOf t).run P w = .ok 1 w
class AgTy (P : Program) (t : TypeId) (k : outParam Nat) : Prop where
  agg : ∀ w, (isAgg t).run P w = .ok true w
  size : ∀ w, (sizeOf t).run P w = .ok k w
class FdTy (P : Program) (t : TypeId) (i : Nat) (off k : outParam Nat) (ag : outParam Bool) : Prop where
  ex : ∃ (fs : Array Field) (fd : Field), P.underlying t = some (.struct fs) ∧ fs[i]? = some fd ∧ fd.offset = off ∧ (∀ w, (sizeOf fd.type).run P w = .ok (k + 1) w) ∧ (∀ w, (isAgg fd.type).run P w = .ok ag w)
class ZrTy (P : Program) (t : TypeId) (z : outParam Value) : Prop where
  z : ∀ w, (zeroValue t).run P w = .ok z w
class StTy (P : Program) (t : TypeId) : Prop where
  u : P.underlying t = some .string
class ArTy (P : Program) (t : TypeId) (len : outParam Nat) (e : outParam TypeId) (sz : outParam Nat) : Prop where
  u : P.underlying t = some (.array len e)
  size : ∀ w, (sizeOf e).run P w = .ok sz w
class MpTy (P : Program) (t : TypeId) (k e : outParam TypeId) : Prop where
  u : P.underlying t = some (.map k e)
class FnTy (P : Program) (f : FuncId) : Prop where
  c : ∀ (args : Array Value) w, (callFunc f args).run P w = .ok (.enter f args) w

section
variable {P : Program} {w0 : World} {S0 : FS} {n : Nat} {F : List (Nat × Value)} {L : List HP} {o : Oper} {rest : List Oper} {ops : Array Oper} {Q : Exit → Act → World → Prop} {d : Nat} {v : Value}

/-- The operation yields v, in every world of the class, and leaves a world of the class. -/
def Q1 (P : Program) (w0 : World) (S0 : FS) (n : Nat) (F : List (Nat × Value)) (L : List HP) (o : Oper) (v : Value) : Prop :=
  ∀ a, Fr F n a → ∀ w, St w0 S0 L w → o.quietAt P a (St w0 S0 L) w v

/-- It yields v and leaves the very world. -/
def R1 (P : Program) (w0 : World) (S0 : FS) (n : Nat) (F : List (Nat × Value)) (L : List HP) (o : Oper) (v : Value) : Prop :=
  ∀ a, Fr F n a → ∀ w, St w0 S0 L w → (execOp a.eval o).run P w = .ok (.value v) w

theorem R1.q (h : R1 P w0 S0 n F L o v) : Q1 P w0 S0 n F L o v := by
  intro a hf w hs
  unfold Oper.quietAt
  rw [h a hf w hs]
  exact ⟨rfl, rfl⟩

theorem q_of_run (h : ∀ a, Fr F n a → ∀ w, St w0 S0 L w → (execOp a.eval o).run P w = .ok (.value v) w) : R1 P w0 S0 n F L o v := h

theorem q_of_pure (h : ∀ a, Fr F n a → ∀ w, (execOp a.eval o).run P w = .ok (.value v) w) : R1 P w0 S0 n F L o v :=
  q_of_run fun a hf w _ => h a hf w

/-- A quiet operation in a region that draws nothing. -/
theorem s_q (hg : o.guard = none) (hd : o.dst = some d) (hn : Nat.blt d n = true) (hq : Q1 P w0 S0 n F L o v) (h : Reach w0 S0 n ((d, v) :: F) L (wpList P ops Q rest)) : Reach w0 S0 n F L (wpList P ops Q (o :: rest)) := by
  intro a w hf hs
  refine wpList_plain hg fun K hK => ?_
  refine Oper.wp_of_quiet (C := St w0 S0 L) (K := fun a' => a' = a.put o.dst v) hs (fun a' w' hs' e => ?_) ⟨v, fun w hs => hq a hf w hs, rfl⟩
  subst e
  exact hK _ _ (h _ _ (by rw [hd]; exact hf.put hn) hs')

theorem s_nil (h : Reach w0 S0 n F L (Q .normal)) : Reach w0 S0 n F L (wpList P ops Q []) := h

/-- Is the operation wanted, by its guard? -/
def gslot (ops : Array Oper) (o : Oper) : Option (Nat × Bool) := match o.guard with
  | none => none
  | some (j, want) => match ops[j]? with
    | some oj => match oj.dst with
      | some t => some (t, want)
      | none => none
    | none => none

theorem wanted_of {a : Act} {t : Nat} {want b : Bool} (hf : Fr F n a) (hg : gslot ops o = some (t, want)) (ht : fget F t = some (.bool b)) :
    Region.wanted o (yielded ops a.tmps) = (b == want) := by
  unfold gslot at hg
  cases hgd : o.guard with
  | none => simp [hgd] at hg
  | some p =>
    obtain ⟨j, w'⟩ := p
    simp only [hgd] at hg
    cases hj : ops[j]? with
    | none => simp [hj] at hg
    | some oj =>
      simp only [hj] at hg
      cases hdst : oj.dst with
      | none => simp [hdst] at hg
      | some u =>
        simp only [hdst, Option.some.injEq, Prod.mk.injEq] at hg
        obtain ⟨rfl, rfl⟩ := hg
        have := hf.look u _ ht
        have hlt : u < a.tmps.size := by
          rcases Nat.lt_or_ge u a.tmps.size with h | h
          · exact h
          · simp [Array.getD_eq_getD_getElem?, Array.getElem?_eq_none h, undef] at this
        have h2 : a.tmps[u]? = some (.bool b) := by
          simp [Array.getD_eq_getD_getElem?, Array.getElem?_eq_getElem hlt] at this
          simp [Array.getElem?_eq_getElem hlt, this]
        simp [Region.wanted, hgd, yielded, hj, hdst, h2]

/-- a guard's value by which an operation is left out -/
def skips : Value → Bool → Bool
  | .bool b, w => !(b == w)
  | .tuple _, _ => true
  | _, _ => false
theorem unwanted_of {a : Act} {t : Nat} {want : Bool} {u : Value} (hf : Fr F n a) (hg : gslot ops o = some (t, want)) (ht : fget F t = some u) (hb : skips u want = true) :
    Region.wanted o (yielded ops a.tmps) = false := by
  cases u with
  | bool b =>
    rw [wanted_of hf hg ht]
    simpa [skips] using hb
  | tuple vs =>
    unfold gslot at hg
    cases hgd : o.guard with
    | none => simp [hgd] at hg
    | some p =>
      obtain ⟨j, w'⟩ := p
      simp only [hgd] at hg
      cases hj : ops[j]? with
      | none => simp [hj] at hg
      | some oj =>
        simp only [hj] at hg
        cases hdst : oj.dst with
        | none => simp [hdst] at hg
        | some x =>
          simp only [hdst, Option.some.injEq, Prod.mk.injEq] at hg
          obtain ⟨rfl, rfl⟩ := hg
          have := hf.look x _ ht
          have h2 : a.tmps[x]? = none ∨ a.tmps[x]? = some (.tuple vs) := by
            rcases Nat.lt_or_ge x a.tmps.size with h | h
            · right
              simp [Array.getD_eq_getD_getElem?, Array.getElem?_eq_getElem h] at this
              simp [Array.getElem?_eq_getElem h, this]
            · exact .inl (Array.getElem?_eq_none h)
          rcases h2 with h2 | h2 <;> simp [Region.wanted, hgd, yielded, hj, hdst, h2]
  | _ => simp [skips] at hb

/-- A guarded operation that is wanted: as one without a guard. -/
theorem s_want {t : Nat} {want : Bool} (hg : gslot ops o = some (t, want)) (ht : fget F t = some (.bool want)) (hd : o.dst = some d) (hn : Nat.blt d n = true) (hq : Q1 P w0 S0 n F L o v) (h : Reach w0 S0 n ((d, v) :: F) L (wpList P ops Q rest)) : Reach w0 S0 n F L (wpList P ops Q (o :: rest)) := by
  intro a w hf hs
  refine wpList_step fun K hK => ?_
  rw [if_pos (by rw [wanted_of hf hg ht]; simp)]
  refine Oper.wp_of_quiet (C := St w0 S0 L) (K := fun a' => a' = a.put o.dst v) hs (fun a' w' hs' e => ?_) ⟨v, fun w hs => hq a hf w hs, rfl⟩
  subst e
  exact hK _ _ (h _ _ (by rw [hd]; exact hf.put hn) hs')

theorem s_skip {t : Nat} {want : Bool} {u0 : Value} (hg : gslot ops o = some (t, want)) (ht : fget F t = some u0) (hb : skips u0 want = true) (hd : o.dst = some d) (hn : Nat.blt d n = true) (h : Reach w0 S0 n ((d, undef) :: F) L (wpList P ops Q rest)) : Reach w0 S0 n F L (wpList P ops Q (o :: rest)) := by
  intro a w hf hs
  refine wpList_step fun K hK => ?_
  rw [if_neg (by rw [unwanted_of hf hg ht hb]; simp)]
  exact hK _ _ (h _ _ (by rw [hd]; exact hf.put hn) hs)

theorem Fr.known {t : Nat} {b c : Bool} {a : Act} (hf : Fr F n a) (ht : fget F t = some (.bool b)) (e : b = c) : Fr ((t, .bool c) :: F) n a := by
  subst e
  refine ⟨hf.df, hf.sz, fun u v hu => ?_⟩
  simp only [fget] at hu
  cases hb : Nat.beq t u
  · rw [hb, cond_false] at hu; exact hf.look u v hu
  · rw [hb, cond_true] at hu
    have := Nat.eq_of_beq_eq_true hb
    subst this
    exact hf.look _ _ (ht.trans hu)

/-- A guard that is not decided: both ways. -/
theorem s_case {t : Nat} {want : Bool} {p : Prop} [Decidable p] (hg : gslot ops o = some (t, want)) (ht : fget F t = some (.bool (decide p)))
    (h1 : p → Reach w0 S0 n ((t, .bool true) :: F) L (wpList P ops Q (o :: rest))) (h2 : ¬ p → Reach w0 S0 n ((t, .bool false) :: F) L (wpList P ops Q (o :: rest))) : Reach w0 S0 n F L (wpList P ops Q (o :: rest)) := by
  intro a w hf hs
  by_cases hp : p
  · exact h1 hp a w (hf.known ht (decide_eq_true hp)) hs
  · exact h2 hp a w (hf.known ht (decide_eq_false hp)) hs

/-! what a value's shape says -/
def Shp (v : Value) (m : Nat) : Prop := m ≤ maxLen ∧ ((v = .slice none 0 0 ∧ m = 0) ∨ ∃ g off cap, v = .slice (some ⟨g, off, none⟩) m cap ∧ m ≤ cap ∧ cap ≤ maxLen)

/-- The address of cell k of a slice. -/
def pv (v : Value) (k : Nat) : Value := match v with
  | .slice (some a) _ _ => .pointer (some ⟨a.block, a.off + k, none⟩)
  | _ => .pointer none

/-! pure operations -/
theorem q_move {x : Operand} (ho : o.op = .move x) (hx : ev F x = some v) : R1 P w0 S0 n F L o v :=
  q_of_pure fun a hf w => by simp [execOp, ho, hf.eval hx]
theorem q_assign {x : Operand} (ho : o.op = .assign x) (hx : ev F x = some v) : R1 P w0 S0 n F L o v :=
  q_of_pure fun a hf w => by simp [execOp, ho, hf.eval hx]
theorem q_pick_t {c x y : Operand} (ho : o.op = .pick c x y) (hc : ev F c = some (.bool true)) (hx : ev F x = some v) : R1 P w0 S0 n F L o v :=
  q_of_pure fun a hf w => by simp [execOp, ho, hf.eval hc, hf.eval hx, asBool]
theorem q_pick_f {c x y : Operand} (ho : o.op = .pick c x y) (hc : ev F c = some (.bool false)) (hx : ev F y = some v) : R1 P w0 S0 n F L o v :=
  q_of_pure fun a hf w => by simp [execOp, ho, hf.eval hc, hf.eval hx, asBool]

section ints
variable {t t' : TypeId} {x y : Operand} {k : IntKind} {i j : Int}
theorem q_lss (ho : o.op = .binOp .lss t x y t') (hx : ev F x = some (.int k i)) (hy : ev F y = some (.int k j)) : R1 P w0 S0 n F L o (.bool (decide (i < j))) :=
  q_of_pure fun a hf w => by simp [execOp, ho, hf.eval hx, hf.eval hy, eqGuard, binOp, Op.intCmp]
theorem q_leq (ho : o.op = .binOp .leq t x y t') (hx : ev F x = some (.int k i)) (hy : ev F y = some (.int k j)) : R1 P w0 S0 n F L o (.bool (decide (i ≤ j))) :=
  q_of_pure fun a hf w => by simp [execOp, ho, hf.eval hx, hf.eval hy, eqGuard, binOp, Op.intCmp]
theorem q_gtr (ho : o.op = .binOp .gtr t x y t') (hx : ev F x = some (.int k i)) (hy : ev F y = some (.int k j)) : R1 P w0 S0 n F L o (.bool (decide (j < i))) :=
  q_of_pure fun a hf w => by simp [execOp, ho, hf.eval hx, hf.eval hy, eqGuard, binOp, Op.intCmp]
theorem q_geq (ho : o.op = .binOp .geq t x y t') (hx : ev F x = some (.int k i)) (hy : ev F y = some (.int k j)) : R1 P w0 S0 n F L o (.bool (decide (j ≤ i))) :=
  q_of_pure fun a hf w => by simp [execOp, ho, hf.eval hx, hf.eval hy, eqGuard, binOp, Op.intCmp]
theorem q_eql (ho : o.op = .binOp .eql t x y t') (hx : ev F x = some (.int k i)) (hy : ev F y = some (.int k j)) : R1 P w0 S0 n F L o (.bool (decide (i = j))) :=
  q_of_pure fun a hf w => by
    simp only [execOp, ho, hf.eval hx, hf.eval hy, eqGuard, binOp, Op.intCmp]
    by_cases h : i = j <;> simp [h]
theorem q_neq (ho : o.op = .binOp .neq t x y t') (hx : ev F x = some (.int k i)) (hy : ev F y = some (.int k j)) : R1 P w0 S0 n F L o (.bool (decide (i ≠ j))) :=
  q_of_pure fun a hf w => by
    simp only [execOp, ho, hf.eval hx, hf.eval hy, eqGuard, binOp, Op.intCmp]
    by_cases h : i = j <;> simp [h]
theorem wrap_id (h : k.min ≤ i ∧ i ≤ k.max) : k.wrap i = i := by
  obtain ⟨h1, h2⟩ := h
  cases k <;> simp [IntKind.wrap, IntKind.min, IntKind.max, IntKind.signed, IntKind.bits] at * <;> omega
theorem q_addw (ho : o.op = .binOp .add t x y t') (hx : ev F x = some (.int k i)) (hy : ev F y = some (.int k j)) : R1 P w0 S0 n F L o (.int k (k.wrap (i + j))) :=
  q_of_pure fun a hf w => by simp [execOp, ho, hf.eval hx, hf.eval hy, eqGuard, binOp, Op.intArith]
theorem q_subw (ho : o.op = .binOp .sub t x y t') (hx : ev F x = some (.int k i)) (hy : ev F y = some (.int k j)) : R1 P w0 S0 n F L o (.int k (k.wrap (i - j))) :=
  q_of_pure fun a hf w => by simp [execOp, ho, hf.eval hx, hf.eval hy, eqGuard, binOp, Op.intArith]
theorem q_mulw (ho : o.op = .binOp .mul t x y t') (hx : ev F x = some (.int k i)) (hy : ev F y = some (.int k j)) : R1 P w0 S0 n F L o (.int k (k.wrap (i * j))) :=
  q_of_pure fun a hf w => by simp [execOp, ho, hf.eval hx, hf.eval hy, eqGuard, binOp, Op.intArith]
theorem q_add (ho : o.op = .binOp .add t x y t') (hx : ev F x = some (.int .i64 i)) (hy : ev F y = some (.int .i64 j)) (h : -9223372036854775808 ≤ i + j ∧ i + j ≤ 9223372036854775807) : R1 P w0 S0 n F L o (.int .i64 (i + j)) := by
  have := q_addw (P := P) (w0 := w0) (S0 := S0) (n := n) (L := L) ho hx hy
  rwa [wrap_id (k := .i64) (by simpa [IntKind.min, IntKind.max, IntKind.signed, IntKind.bits] using h)] at this
theorem q_sub (ho : o.op = .binOp .sub t x y t') (hx : ev F x = some (.int .i64 i)) (hy : ev F y = some (.int .i64 j)) (h : -9223372036854775808 ≤ i - j ∧ i - j ≤ 9223372036854775807) : R1 P w0 S0 n F L o (.int .i64 (i - j)) := by
  have := q_subw (P := P) (w0 := w0) (S0 := S0) (n := n) (L := L) ho hx hy
  rwa [wrap_id (k := .i64) (by simpa [IntKind.min, IntKind.max, IntKind.signed, IntKind.bits] using h)] at this
theorem q_mul (ho : o.op = .binOp .mul t x y t') (hx : ev F x = some (.int .i64 i)) (hy : ev F y = some (.int .i64 j)) (h : -9223372036854775808 ≤ i * j ∧ i * j ≤ 9223372036854775807) : R1 P w0 S0 n F L o (.int .i64 (i * j)) := by
  have := q_mulw (P := P) (w0 := w0) (S0 := S0) (n := n) (L := L) ho hx hy
  rwa [wrap_id (k := .i64) (by simpa [IntKind.min, IntKind.max, IntKind.signed, IntKind.bits] using h)] at this
theorem q_rem (ho : o.op = .binOp .rem t x y t') (hx : ev F x = some (.int k i)) (hy : ev F y = some (.int k j)) (h : 0 ≤ i ∧ 0 < j) : R1 P w0 S0 n F L o (.int k (i % j)) :=
  q_of_pure fun a hf w => by
    have hj : ¬ j = 0 := by omega
    simp [execOp, ho, hf.eval hx, hf.eval hy, eqGuard, binOp, Op.intDiv, hj, Int.tmod_eq_emod_of_nonneg h.1]
theorem q_quo (ho : o.op = .binOp .quo t x y t') (hx : ev F x = some (.int .i64 i)) (hy : ev F y = some (.int .i64 j)) (h : 0 ≤ i ∧ i ≤ 9223372036854775807 ∧ 0 < j) : R1 P w0 S0 n F L o (.int .i64 (i / j)) :=
  q_of_pure fun a hf w => by
    have hj : ¬ j = 0 := by omega
    have h1 : 0 ≤ i / j := Int.ediv_nonneg h.1 (by omega)
    have h2 : i / j ≤ i := Int.ediv_le_self j h.1
    have hw : IntKind.wrap .i64 (i / j) = i / j := wrap_id (by simp [IntKind.min, IntKind.max, IntKind.signed, IntKind.bits]; omega)
    simp [execOp, ho, hf.eval hx, hf.eval hy, eqGuard, binOp, Op.intDiv, hj, Int.tdiv_eq_ediv_of_nonneg h.1, hw]
theorem q_min {ty : Array TypeId} (ho : o.op = .call { callee := .builtin .min, args := #[x, y], argTypes := ty }) (hx : ev F x = some (.int k i)) (hy : ev F y = some (.int k j)) : R1 P w0 S0 n F L o (.int k (min i j)) :=
  q_of_pure fun a hf w => by
    have e : min i j = if j < i then j else i := by by_cases h : j < i <;> simp [h] <;> omega
    simp [execOp, ho, hf.eval hx, hf.eval hy, resolve, invoke, builtin, Builtin.min_, Builtin.min2, List.foldlM_cons, List.foldlM_nil, e]
theorem q_max {ty : Array TypeId} (ho : o.op = .call { callee := .builtin .max, args := #[x, y], argTypes := ty }) (hx : ev F x = some (.int k i)) (hy : ev F y = some (.int k j)) : R1 P w0 S0 n F L o (.int k (max i j)) :=
  q_of_pure fun a hf w => by
    have e : max i j = if i < j then j else i := by by_cases h : i < j <;> simp [h] <;> omega
    simp [execOp, ho, hf.eval hx, hf.eval hy, resolve, invoke, builtin, Builtin.max_, Builtin.max2, List.foldlM_cons, List.foldlM_nil, e]
theorem q_not {x : Operand} {b : Bool} (ho : o.op = .unOp .not t x) (hx : ev F x = some (.bool b)) : R1 P w0 S0 n F L o (.bool (!b)) :=
  q_of_pure fun a hf w => by simp [execOp, ho, hf.eval hx, Op.unary]
theorem q_neg {x : Operand} (ho : o.op = .unOp .neg t x) (hx : ev F x = some (.int k i)) : R1 P w0 S0 n F L o (.int k (k.wrap (-i))) :=
  q_of_pure fun a hf w => by simp [execOp, ho, hf.eval hx, Op.unary, Op.intArith]
end ints

theorem run_under {t : TypeId} {u : TypeDesc} (ht : P.underlying t = some u) (w : World) : (underlying t).run P w = .ok u w := run_underlying ht w
theorem q_len {x : Operand} {t e : TypeId} {s z : Value} {m sz bs : Nat} (ho : o.op = .call { callee := .builtin .len, args := #[x], argTypes := #[t] }) (hx : ev F x = some s) (hs : Shp s m) [T : SlTy P t e z sz bs] : R1 P w0 S0 n F L o (.int .i64 m) :=
  q_of_pure fun a hf w => by
    rcases hs.2 with ⟨rfl, rfl⟩ | ⟨g, off, cap, rfl, _⟩ <;> simp [execOp, ho, hf.eval hx, resolve, invoke, builtin, Builtin.len_, run_under T.u, goInt]
theorem q_lens {x : Operand} {t : TypeId} {s : ByteArray} (ho : o.op = .call { callee := .builtin .len, args := #[x], argTypes := #[t] }) (hx : ev F x = some (.string s)) [T : StTy P t] : R1 P w0 S0 n F L o (.int .i64 s.size) :=
  q_of_pure fun a hf w => by simp [execOp, ho, hf.eval hx, resolve, invoke, builtin, Builtin.len_, run_under T.u, goInt]
theorem q_idxi {x y : Operand} {t e : TypeId} {s z : Value} {m sz bs : Nat} {k : IntKind} {i : Int} (ho : o.op = .indexAddr t x y) (hx : ev F x = some s) (hy : ev F y = some (.int k i)) (hs : Shp s m) (hi : 0 ≤ i ∧ i < (m : Int)) [T : SlTy P t e z sz bs] : R1 P w0 S0 n F L o (pv s (i.toNat * sz)) :=
  q_of_pure fun a hf w => by
    rcases hs.2 with ⟨rfl, rfl⟩ | ⟨g, off, cap, rfl, _⟩
    · omega
    · simp [execOp, ho, hf.eval hx, hf.eval hy, Instr.indexAt, asIntOf, run_under T.u, T.size, hi, pv, Addr.add]
theorem q_idx {x y : Operand} {t e : TypeId} {s z : Value} {m sz bs i : Nat} {k : IntKind} (ho : o.op = .indexAddr t x y) (hx : ev F x = some s) (hy : ev F y = some (.int k (i : Int))) (hs : Shp s m) (hi : i < m) [T : SlTy P t e z sz bs] : R1 P w0 S0 n F L o (pv s (i * sz)) :=
  q_idxi (i := (i : Int)) ho hx hy hs ⟨by omega, by omega⟩
theorem q_extract {x : Operand} {i : Nat} {vs : Array Value} (ho : o.op = .extract x i) (hx : ev F x = some (.tuple vs)) (hv : vs[i]? = some v) : R1 P w0 S0 n F L o v :=
  q_of_pure fun a hf w => by simp [execOp, ho, hf.eval hx, Instr.extract, hv]
/-- field i of a struct's value, one cell -/
theorem q_field {x : Operand} {t : TypeId} {i off k : Nat} {cs : Array Value} [T : FdTy P t i off k false] (ho : o.op = .field t x i) (hx : ev F x = some (.agg cs)) (hv : cs[off]? = some v) : R1 P w0 S0 n F L o v :=
  q_of_pure fun a hf w => by
    obtain ⟨fs, fd, ht, hfd, rfl, hz, ha⟩ := T.ex
    simp [execOp, ho, hf.eval hx, Instr.field, run_under ht, hfd, asAgg, part, ha, hv]
/-- a field that is a struct itself -/
theorem q_fieldk {x : Operand} {t : TypeId} {i off k : Nat} {cs : Array Value} [T : FdTy P t i off k true] (ho : o.op = .field t x i) (hx : ev F x = some (.agg cs)) : R1 P w0 S0 n F L o (.agg (cs.extract off (off + (k + 1)))) :=
  q_of_pure fun a hf w => by
    obtain ⟨fs, fd, ht, hfd, rfl, hz, ha⟩ := T.ex
    simp [execOp, ho, hf.eval hx, Instr.field, run_under ht, hfd, asAgg, part, ha, hz]

/-! addresses -/
theorem q_fa {x : Operand} {t : TypeId} {i b off fo k : Nat} {ag : Bool} [T : FdTy P t i fo k ag] (ho : o.op = .fieldAddr t x i) (hx : ev F x = some (.pointer (some ⟨b, off, none⟩))) : R1 P w0 S0 n F L o (.pointer (some ⟨b, off + fo, none⟩)) :=
  q_of_pure fun a hf w => by
    obtain ⟨fs, fd, ht, hfd, rfl, hz, ha⟩ := T.ex
    simp [execOp, ho, hf.eval hx, Instr.fieldAt, run_under ht, hfd, Instr.sureAddr, fieldPlace, hz, Addr.add]
theorem q_fap {x : Operand} {t : TypeId} {i k m fo sz : Nat} {s : Value} {ag : Bool} [T : FdTy P t i fo sz ag] (ho : o.op = .fieldAddr t x i) (hx : ev F x = some (pv s k)) (hs : Shp s m) (hm : 0 < m) : R1 P w0 S0 n F L o (pv s (k + fo)) :=
  q_of_pure fun a hf w => by
    obtain ⟨fs, fd, ht, hfd, rfl, hz, ha⟩ := T.ex
    rcases hs.2 with ⟨rfl, rfl⟩ | ⟨g, off, cap, rfl, _⟩
    · omega
    · have hx' := hf.eval hx
      simp only [pv] at hx'
      simp [execOp, ho, hx', Instr.fieldAt, run_under ht, hfd, Instr.sureAddr, fieldPlace, hz, Addr.add, pv]
      split <;> simp_all [Nat.add_assoc]
end
end Go.Sl
