/- Calls, entries, returns; regions that draw their order. -/
import Derived.Test.YtkekpgkacjpjnaaSlHeap
set_option linter.unusedVariables false
set_option linter.unusedSimpArgs false
namespace Go.Sl
open Go Go.RowKit

/-- What a call comes to: it hands back v, and owns L', where G says so; it turned nothing but what it was lent. -/
def Post (w : World) (S : FS) (G : Value → List HP → Prop) (e : Ending) (w' : World) : Prop :=
  ∃ v L', G v L' ∧ e = .returned v ∧ ∃ S', Mod w S w' S' ∧ sats L' S' w'

/-- one value, nothing owned -/
def Just (v0 : Value) (v : Value) (L : List HP) : Prop := v = v0 ∧ L = []

def No : FS := fun _ => False

section
variable {P : Program} {w0 : World} {S0 : FS} {n : Nat} {F : List (Nat × Value)} {L : List HP} {o : Oper} {rest : List Oper} {ops : Array Oper} {Q : Exit → Act → World → Prop} {d : Nat} {v : Value}

theorem Post.imp {w : World} {S : FS} {G G' : Value → List HP → Prop} (h : ∀ v L, G v L → G' v L) : ∀ e w', Post w S G e w' → Post w S G' e w' :=
  fun _ _ ⟨v, L', g, r⟩ => ⟨v, L', h v L' g, r⟩

/-! what the caller reads, for the callee -/
theorem ro_old {w : World} {ys : List Value} (hs : St w0 S0 L w) (hr : RO w0 S0 v ys) : RO w No v ys := by
  intro w' S' hm
  obtain ⟨S, hm0, _⟩ := hs
  refine hr w' (fun k => S k ∨ S' k) (hm0.trans ⟨hm.os, hm.tape, hm.output, hm.size, fun k hk _ => hm.keep k hk (fun h => h), fun k hk => hk.imp id (fun h => (hm.new k h).elim (fun h => h.elim) id)⟩)

theorem RdV.keep {w w' : World} {ys : List Value} {v : Value} (h : RdV w v ys) (hb : Below w.heap.size w w') : RdV w' v ys := by
  intro j u hj
  obtain ⟨g, off, m, cap, e, hc⟩ := h j u hj
  exact ⟨g, off, m, cap, e, by rw [hb.cell (p := ⟨g, off + j, none⟩) (World.block_lt_of_cell? w _ hc)]; exact hc⟩

theorem ro_own {w : World} {e : TypeId} {sz m : Nat} {ys : List Value} (hs : St w0 S0 L w) (hL : rowHP v e sz m ys ∈ L) : RO w No v ys := by
  obtain ⟨S, hsat⟩ := hs.mem hL
  exact RO.of_rd (rowHP_rd hsat)

/-- A call of a Go function that is lent nothing. -/
theorem l_call0 {R : Act → World → Prop} {f : FuncId} {xs : Array Operand} {ts : Array TypeId} {vs : List Value} {G : Value → List HP → Prop} (ho : o.op = .call { callee := .value (.func f), args := xs, argTypes := ts }) (hd : o.dst = some d) (hn : Nat.blt d n = true) (hvs : xs.toList.map (ev F) = vs.map some) [T : FnTy P f]
    (hc : ∀ w, St w0 S0 L w → Calls P f vs.toArray w (Post w No G)) (h : ∀ v L', G v L' → Reach w0 S0 n ((d, v) :: F) (L' ++ L) R) : Reach w0 S0 n F L (fun a w => o.wp P a w R Q) := by
  intro a w hf hs
  have hargs : xs.map a.eval = vs.toArray := by
    have : ∀ (l : List Operand) (us : List Value), l.map (ev F) = us.map some → l.map a.eval = us := by
      intro l
      induction l with
      | nil => intro us hu; cases us with | nil => rfl | cons _ _ => simp at hu
      | cons x l ih =>
        intro us hu
        cases us with
        | nil => simp at hu
        | cons u us =>
          simp only [List.map_cons, List.cons.injEq] at hu ⊢
          exact ⟨hf.eval hu.1, ih us hu.2⟩
    obtain ⟨l⟩ := xs
    rw [List.map_toArray, this l vs hvs]
  have hr : (execOp a.eval o).run P w = .ok (.enter f vs.toArray) w := by
    have e : a.eval (.func f) = .func (.func f) #[] #[] := rfl
    simp only [execOp, ho, resolve, hargs, e, Deferred.ofValue, invoke, Sem.run_bind, Sem.run_pure, Result.andThen_ok, Array.append_empty, Array.empty_append, T.c]
  unfold Oper.wp
  rw [hr, Oper.upon_enter]
  refine (hc w hs).mono ?_
  rintro e w' ⟨u, L', g, rfl, S', hm, hl⟩
  refine h u L' g _ _ (by rw [hd]; exact hf.put hn) ?_
  have hn' : ∀ k, S' k → w.heap.size ≤ k := fun k hk => (hm.new k hk).elim (fun h => h.elim) id
  exact hs.push ⟨hm.os, hm.tape, hm.output, hm.size, hm.keep, fun k hk => .inr hk⟩ (sats_mono hn' hl)

/-- The same, quiet: one value, nothing owned. -/
theorem q_call {f : FuncId} {xs : Array Operand} {ts : Array TypeId} {vs : List Value} {u : Value} (ho : o.op = .call { callee := .value (.func f), args := xs, argTypes := ts }) (hvs : xs.toList.map (ev F) = vs.map some) [T : FnTy P f]
    (hc : ∀ w, St w0 S0 L w → Calls P f vs.toArray w (Post w No (Just u))) : Q1 P w0 S0 n F L o u := by
  intro a hf w hs
  have hargs : xs.map a.eval = vs.toArray := by
    have : ∀ (l : List Operand) (us : List Value), l.map (ev F) = us.map some → l.map a.eval = us := by
      intro l
      induction l with
      | nil => intro us hu; cases us with | nil => rfl | cons _ _ => simp at hu
      | cons x l ih =>
        intro us hu
        cases us with
        | nil => simp at hu
        | cons u us =>
          simp only [List.map_cons, List.cons.injEq] at hu ⊢
          exact ⟨hf.eval hu.1, ih us hu.2⟩
    obtain ⟨l⟩ := xs
    rw [List.map_toArray, this l vs hvs]
  have hr : (execOp a.eval o).run P w = .ok (.enter f vs.toArray) w := by
    have e : a.eval (.func f) = .func (.func f) #[] #[] := rfl
    simp only [execOp, ho, resolve, hargs, e, Deferred.ofValue, invoke, Sem.run_bind, Sem.run_pure, Result.andThen_ok, Array.append_empty, Array.empty_append, T.c]
  unfold Oper.quietAt
  rw [hr]
  refine ⟨rfl, (hc w hs).mono ?_⟩
  rintro e w' ⟨u', L', ⟨rfl, rfl⟩, rfl, S', hm, _⟩
  exact ⟨rfl, hs.same hm.below⟩

/-! a body -/
def argsF : Nat → List Value → List (Nat × Value)
  | _, [] => []
  | i, v :: vs => (i, v) :: argsF (i + 1) vs

theorem argsF_get : ∀ (vs : List Value) (i t : Nat) (v : Value), fget (argsF i vs) t = some v → ∃ j, t = i + j ∧ vs[j]? = some v
  | [], _, _, _, h => by simp [argsF, fget] at h
  | u :: us, i, t, v, h => by
    simp only [argsF, fget] at h
    cases hb : Nat.beq i t
    · rw [hb, cond_false] at h
      obtain ⟨j, rfl, hj⟩ := argsF_get us (i + 1) t v h
      exact ⟨j + 1, by omega, by simpa using hj⟩
    · rw [hb, cond_true] at h
      have := Nat.eq_of_beq_eq_true hb
      subst this
      exact ⟨0, by omega, by simpa using h⟩

theorem enter {f : FuncId} {fn : Func} {c : Code} {vs : List Value} {w : World} {S : FS} {G : Value → List HP → Prop} {L0 : List HP} (hf : P.funcs[f]? = some fn) (hb : fn.body = some c) (hn : fn.ntmps = n) (hl : Nat.ble vs.length n = true) (hL : sats L0 S w)
    (h : Reach w S n (argsF 0 vs) L0 (c.wp P (bodyPost P fn (Post w S G)))) : Calls P f vs.toArray w (Post w S G) := by
  refine calls_of_wp hf hb (h _ _ ⟨rfl, ?_, ?_⟩ (St.start hL))
  · have : vs.length ≤ n := by simpa using hl
    simp [hn]; omega
  · intro t u ht
    obtain ⟨j, rfl, hj⟩ := argsF_get vs 0 t u ht
    have hlt := (List.getElem?_eq_some_iff.1 hj).1
    simp only [Nat.zero_add, Array.getD_eq_getD_getElem?]
    rw [Array.getElem?_append_left (by simpa using hlt)]
    simp [hj]

theorem enter0 {f : FuncId} {fn : Func} {c : Code} {vs : List Value} {w : World} {G : Value → List HP → Prop} (hf : P.funcs[f]? = some fn) (hb : fn.body = some c) (hn : fn.ntmps = n) (hl : Nat.ble vs.length n = true)
    (h : Reach w No n (argsF 0 vs) [] (c.wp P (bodyPost P fn (Post w No G)))) : Calls P f vs.toArray w (Post w No G) :=
  enter hf hb hn hl (L0 := []) trivial h

/-- the end: one result that stands in a slot -/
theorem ret1 {fn : Func} {w : World} {S : FS} {G : Value → List HP → Prop} {t : Nat} (is : List Nat) {M : List HP} (hr : fn.results = #[.tmp t]) (ht : fget F t = some v) (hL : pick L is = some M) (hG : G v M) : Reach w S n F L (bodyPost P fn (Post w S G) .ret) := by
  intro a w' hf hs
  refine ⟨hf.df, v, ?_, v, M, hG, rfl, hs.pick is hL⟩
  rw [results_tmp hr, hf.look t v ht]

theorem ret2 {fn : Func} {w : World} {S : FS} {G : Value → List HP → Prop} {t t' : Nat} {v' : Value} (is : List Nat) {M : List HP} (hr : fn.results = #[.tmp t, .tmp t']) (ht : fget F t = some v) (ht' : fget F t' = some v') (hL : pick L is = some M) (hG : G (.tuple #[v, v']) M) : Reach w S n F L (bodyPost P fn (Post w S G) .ret) := by
  intro a w' hf hs
  refine ⟨hf.df, .tuple #[v, v'], ?_, _, M, hG, rfl, hs.pick is hL⟩
  rw [results_tmp2 hr, hf.look t v ht, hf.look t' v' ht']

theorem ret0 {fn : Func} {w : World} {S : FS} {G : Value → List HP → Prop} (is : List Nat) {M : List HP} (hr : fn.results = #[]) (hL : pick L is = some M) (hG : G (.tuple #[]) M) : Reach w S n F L (bodyPost P fn (Post w S G) .normal) := by
  intro a w' hf hs
  exact ⟨hf.df, .tuple #[], results_none hr _ _ _, _, M, hG, rfl, hs.pick is hL⟩

/-! regions that draw their order, all of whose operations are quiet -/
def RQ (w0 : World) (S0 : FS) (n : Nat) (F : List (Nat × Value)) (R : Act → Prop) : Prop := ∀ a, Fr F n a → R a

theorem c_draw {id : Nat} {l : List Oper} {Q : Exit → Act → World → Prop} (hm : P.follows .mixedOrders = true) (hB : Region.lexB .any l.toArray = true)
    (h : RQ w0 S0 n F (wpQuiet P l.toArray (St w0 S0 L) (fun a' => ∀ w', St w0 S0 L w' → Q .normal a' w') l)) : Reach w0 S0 n F L ((Code.region id l.toArray true).wp P Q) := by
  intro a w hf hs
  exact wp_region_quiet (C := St w0 S0 L) hm hB hs.drew (by simpa using h a hf)

theorem d_q {Qa : Act → Prop} (hg : o.guard = none) (hd : o.dst = some d) (hn : Nat.blt d n = true) (hq : Q1 P w0 S0 n F L o v) (h : RQ w0 S0 n ((d, v) :: F) (wpQuiet P ops (St w0 S0 L) Qa rest)) : RQ w0 S0 n F (wpQuiet P ops (St w0 S0 L) Qa (o :: rest)) := by
  intro a hf
  refine wpQuiet_step fun K hK => ?_
  rw [if_pos (by simp [Region.wanted, hg])]
  exact ⟨v, fun w hs => hq a hf w hs, hK _ (h _ (by rw [hd]; exact hf.put hn))⟩

theorem d_want {Qa : Act → Prop} {t : Nat} {want : Bool} (hg : gslot ops o = some (t, want)) (ht : fget F t = some (.bool want)) (hd : o.dst = some d) (hn : Nat.blt d n = true) (hq : Q1 P w0 S0 n F L o v) (h : RQ w0 S0 n ((d, v) :: F) (wpQuiet P ops (St w0 S0 L) Qa rest)) : RQ w0 S0 n F (wpQuiet P ops (St w0 S0 L) Qa (o :: rest)) := by
  intro a hf
  refine wpQuiet_step fun K hK => ?_
  rw [if_pos (by rw [wanted_of hf hg ht]; simp)]
  exact ⟨v, fun w hs => hq a hf w hs, hK _ (h _ (by rw [hd]; exact hf.put hn))⟩

theorem d_skip {Qa : Act → Prop} {t : Nat} {want : Bool} {u0 : Value} (hg : gslot ops o = some (t, want)) (ht : fget F t = some u0) (hb : skips u0 want = true) (hd : o.dst = some d) (hn : Nat.blt d n = true) (h : RQ w0 S0 n ((d, undef) :: F) (wpQuiet P ops (St w0 S0 L) Qa rest)) : RQ w0 S0 n F (wpQuiet P ops (St w0 S0 L) Qa (o :: rest)) := by
  intro a hf
  refine wpQuiet_step fun K hK => ?_
  rw [if_neg (by rw [unwanted_of hf hg ht hb]; simp)]
  exact hK _ (h _ (by rw [hd]; exact hf.put hn))

theorem d_case {Qa : Act → Prop} {t : Nat} {want : Bool} {p : Prop} [Decidable p] (hg : gslot ops o = some (t, want)) (ht : fget F t = some (.bool (decide p)))
    (h1 : p → RQ w0 S0 n ((t, .bool true) :: F) (wpQuiet P ops (St w0 S0 L) Qa (o :: rest))) (h2 : ¬ p → RQ w0 S0 n ((t, .bool false) :: F) (wpQuiet P ops (St w0 S0 L) Qa (o :: rest))) : RQ w0 S0 n F (wpQuiet P ops (St w0 S0 L) Qa (o :: rest)) := by
  intro a hf
  by_cases hp : p
  · exact h1 hp a (hf.known ht (decide_eq_true hp))
  · exact h2 hp a (hf.known ht (decide_eq_false hp))

theorem d_nil {K : Exit → Act → World → Prop} (h : Reach w0 S0 n F L (K .normal)) : RQ w0 S0 n F (wpQuiet P ops (St w0 S0 L) (fun a' => ∀ w', St w0 S0 L w' → K .normal a' w') []) :=
  fun a hf w' hs => h a w' hf hs
end
end Go.Sl
