/- Function values; boxes that are read by others; structs out of their parts; results that stand in cells. -/
import Derived.Test.YtkekpgkacjpjnaaSlNest
set_option linter.unusedVariables false
set_option linter.unusedSimpArgs false
namespace Go.Sl
open Go Go.RowKit

/-- a box that another owns, read -/
def RB (w0 : World) (S0 : FS) (b : Nat) (t : TypeId) (cs : List Value) : Prop := ∀ w S, Mod w0 S0 w S → w.heap[b]? = some (.cells cs.toArray t (0, 0))

class BdTy (P : Program) (t : TypeId) (z : outParam Value) (pl : outParam (List (Nat × Nat))) : Prop where
  z : ∀ w, (zeroValue t).run P w = .ok z w
  ex : ∃ fs : List Field, P.underlying t = some (.struct fs.toArray) ∧ ∀ w, (fs.mapM fun (f : Field) => (do pure (f.offset, ← sizeOf f.type) : Sem (Nat × Nat))).run P w = .ok pl w

section
variable {P : Program} {w0 : World} {S0 : FS} {n : Nat} {F : List (Nat × Value)} {L Lk : List HP} {o : Oper} {rest : List Oper} {ops : Array Oper} {Q : Exit → Act → World → Prop} {d : Nat} {v : Value} {R : Act → World → Prop}

theorem rb_own {w : World} {b : Nat} {t : TypeId} {cs : List Value} (hs : St w0 S0 L w) (hL : boxHP b t cs ∈ L) : RB w No b t cs := by
  obtain ⟨S, hsat⟩ := hs.mem hL
  intro w' S' hm
  exact (hm.below.block _ (Array.getElem?_eq_some_iff.1 hsat.2).1).trans hsat.2
theorem rb_old {w : World} {b : Nat} {t : TypeId} {cs : List Value} (hs : St w0 S0 L w) (hr : RB w0 S0 b t cs) : RB w No b t cs := by
  intro w' S' hm
  obtain ⟨S, hm0, _⟩ := hs
  exact hr w' (fun k => S k ∨ S' k) (hm0.trans ⟨hm.os, hm.tape, hm.output, hm.size, fun k hk _ => hm.keep k hk (fun h => h), fun k hk => hk.imp id (fun h => (hm.new k h).elim (fun h => h.elim) id)⟩)
theorem rb_mod {w w' : World} {S' : FS} {b : Nat} {t : TypeId} {cs : List Value} (hr : RB w No b t cs) (hm : Mod w No w' S') : RB w' No b t cs :=
  fun w2 S2 hm2 => hr w2 (fun k => S' k ∨ S2 k) (hm.trans ⟨hm2.os, hm2.tape, hm2.output, hm2.size, fun k hk _ => hm2.keep k hk (fun h => h), fun k hk => hk.imp id (fun h => (hm2.new k h).elim (fun h => h.elim) id)⟩)
theorem ro_mod {w w' : World} {S' : FS} {ys : List Value} (hr : RO w No v ys) (hm : Mod w No w' S') : RO w' No v ys :=
  fun w2 S2 hm2 => hr w2 (fun k => S' k ∨ S2 k) (hm.trans ⟨hm2.os, hm2.tape, hm2.output, hm2.size, fun k hk _ => hm2.keep k hk (fun h => h), fun k hk => hk.imp id (fun h => (hm2.new k h).elim (fun h => h.elim) id)⟩)
theorem St.mod0 {w : World} (h : St w0 No L w) : ∃ S, Mod w0 No w S := h.imp fun _ h => h.1

theorem q_ld_rb {x : Operand} {t tb : TypeId} {b off : Nat} {cs : List Value} (hr : RB w0 S0 b tb cs) (ho : o.op = .load t x) (hx : ev F x = some (.pointer (some ⟨b, off, none⟩))) (hc : cs[off]? = some v) [T : ScTy P t] : R1 P w0 S0 n F L o v :=
  q_of_run fun a hf w hs => by
    obtain ⟨S, hm, _⟩ := hs
    have hcell : w.cell? ⟨b, off, none⟩ = some v := by simp [World.cell?, hr w S hm, hc]
    simp [execOp, ho, hf.eval hx, run_load1 T.agg hcell]

theorem q_mkf {f : Fn} {xs ys : Array Operand} {vs us : List Value} (ho : o.op = .makeFunc f xs ys) (hxs : xs.toList.map (ev F) = vs.map some) (hys : ys.toList.map (ev F) = us.map some) : R1 P w0 S0 n F L o (.func f vs.toArray us.toArray) :=
  q_of_pure fun a hf w => by
    have key : ∀ (l : List Operand) (us : List Value), l.map (ev F) = us.map some → l.map a.eval = us := by
      intro l
      induction l with
      | nil => intro us hu; cases us with | nil => rfl | cons _ _ => simp at hu
      | cons x l ih =>
        intro us hu
        cases us with
        | nil => simp at hu
        | cons u us =>
          simp only [List.map_cons, List.cons.injEq] at hu ⊢
          exact ⟨hf.eval hu.1, ih us hu.2⟩
    obtain ⟨xl⟩ := xs
    obtain ⟨yl⟩ := ys
    simp [execOp, ho, Instr.makeFunc, key xl vs hxs, key yl us hys]

/-! a call of a function value -/
theorem callv_run {f : FuncId} {c : Operand} {xs : Array Operand} {ts : Array TypeId} {vs pre caps : List Value} {a : Act} {w : World} [T : FnTy P f] (hf : Fr F n a) (ho : o.op = .call { callee := .value c, args := xs, argTypes := ts }) (hc : ev F c = some (.func (.func f) pre.toArray caps.toArray)) (hvs : xs.toList.map (ev F) = vs.map some) :
    (execOp a.eval o).run P w = .ok (.enter f (pre ++ vs ++ caps).toArray) w := by
  have hargs : xs.map a.eval = vs.toArray := by
    have : ∀ (l : List Operand) (us : List Value), l.map (ev F) = us.map some → l.map a.eval = us := by
      intro l
      induction l with
      | nil => intro us hu; cases us with | nil => rfl | cons _ _ => simp at hu
      | cons x l ih =>
        intro us hu
        cases us with
        | nil => simp at hu
        | cons u us =>
          simp only [List.map_cons, List.cons.injEq] at hu ⊢
          exact ⟨hf.eval hu.1, ih us hu.2⟩
    obtain ⟨l⟩ := xs
    rw [List.map_toArray, this l vs hvs]
  simp only [execOp, ho, resolve, hargs, hf.eval hc, Deferred.ofValue, invoke, Sem.run_bind, Sem.run_pure, Result.andThen_ok, T.c]
  simp

theorem q_callv {f : FuncId} {c : Operand} {xs : Array Operand} {ts : Array TypeId} {vs pre caps : List Value} {u : Value} (ho : o.op = .call { callee := .value c, args := xs, argTypes := ts }) (hc : ev F c = some (.func (.func f) pre.toArray caps.toArray)) (hvs : xs.toList.map (ev F) = vs.map some) [T : FnTy P f]
    (hcl : ∀ w, St w0 S0 L w → Calls P f (pre ++ vs ++ caps).toArray w (Post w No (Just u))) : Q1 P w0 S0 n F L o u := by
  intro a hf w hs
  unfold Oper.quietAt
  rw [callv_run hf ho hc hvs]
  refine ⟨rfl, (hcl w hs).mono ?_⟩
  rintro e w' ⟨u', L', ⟨rfl, rfl⟩, rfl, S', hm, _⟩
  exact ⟨rfl, hs.same hm.below⟩

/-- what the function's number is comes with the value -/
theorem s_callv {f : FuncId} {c : Operand} {xs : Array Operand} {ts : Array TypeId} {vs pre caps : List Value} {u : Value} {ty : TypeId} {ps : String} {af : Array Edge} [T : FnTy P f] (hn : Nat.blt d n = true) (hc : ev F c = some (.func (.func f) pre.toArray caps.toArray)) (hvs : xs.toList.map (ev F) = vs.map some)
    (hcl : ∀ w, St w0 S0 L w → Calls P f (pre ++ vs ++ caps).toArray w (Post w No (Just u))) (h : Reach w0 S0 n ((d, u) :: F) L (wpList P ops Q rest)) : Reach w0 S0 n F L (wpList P ops Q (⟨some d, .call { callee := .value c, args := xs, argTypes := ts }, ty, ps, af, none⟩ :: rest)) := s_q rfl rfl hn (q_callv rfl hc hvs hcl) h
theorem w_callv {f : FuncId} {c : Operand} {xs : Array Operand} {ts : Array TypeId} {vs pre caps : List Value} {u0 : Value} {gd : Nat × Bool} {u : Nat} {want : Bool} {ty : TypeId} {ps : String} {af : Array Edge} [T : FnTy P f] (hg : gslot ops ⟨some d, .call { callee := .value c, args := xs, argTypes := ts }, ty, ps, af, some gd⟩ = some (u, want)) (ht : fget F u = some (.bool want)) (hn : Nat.blt d n = true) (hc : ev F c = some (.func (.func f) pre.toArray caps.toArray)) (hvs : xs.toList.map (ev F) = vs.map some)
    (hcl : ∀ w, St w0 S0 L w → Calls P f (pre ++ vs ++ caps).toArray w (Post w No (Just u0))) (h : Reach w0 S0 n ((d, u0) :: F) L (wpList P ops Q rest)) : Reach w0 S0 n F L (wpList P ops Q (⟨some d, .call { callee := .value c, args := xs, argTypes := ts }, ty, ps, af, some gd⟩ :: rest)) := s_want hg ht rfl hn (q_callv rfl hc hvs hcl) h

/-! structs out of their parts -/
def bld (pl : List (Nat × Nat)) : List Value → List (Nat × List Value) → Option (List Value)
  | z, [] => some z
  | z, (i, us) :: l => match pl[i]? with
    | some (off, k) => if us.length = k ∧ off + k ≤ z.length then bld pl (putL z off us) l else none
    | none => none

theorem fill_bld (pl : List (Nat × Nat)) : ∀ (l : List (Nat × Value × List Value)) (cells : Array Value) (cs : List Value), (∀ q ∈ l, q.2.1.cells.toList = q.2.2) → bld pl cells.toList (l.map fun q => (q.1, q.2.2)) = some cs →
    ∃ arr : Array Value, Instr.fill (pl.toArray[·]?) cells (l.map fun q => (q.1, q.2.1)) = some arr ∧ arr.toList = cs
  | [], cells, cs, _, h => ⟨cells, rfl, by simpa [bld] using h⟩
  | (i, u, us) :: l, cells, cs, hq, h => by
    have hu : u.cells.toList = us := hq (i, u, us) (by simp)
    simp only [List.map_cons, bld] at h
    cases hp : pl[i]? with
    | none => simp [hp] at h
    | some p =>
      obtain ⟨off, k⟩ := p
      simp only [hp] at h
      split at h
      · rename_i hk
        have hsz : u.cells.size = k := by rw [← hk.1, ← hu]; simp
        let arr := u.cells.zipIdx.foldl (fun (cs : Array Value) (p : Value × Nat) => cs.setIfInBounds (off + p.2) p.1) cells
        have harr : arr.toList = putL cells.toList off us := by
          have e : arr = ((us.zipIdx 0).foldl (fun (cs : Array Value) (p : Value × Nat) => cs.setIfInBounds (off + p.2) p.1) cells) := by
            show u.cells.zipIdx.foldl _ cells = _
            rw [← Array.foldl_toList, ← hu]
            simp
          rw [e]
          have key : ∀ (us : List Value) (k off : Nat) (cells : Array Value), ((us.zipIdx k).foldl (fun (cs : Array Value) (p : Value × Nat) => cs.setIfInBounds (off + p.2) p.1) cells).toList = putL cells.toList (off + k) us := by
            intro us
            induction us with
            | nil => intro k off cells; rfl
            | cons u us ih =>
              intro k off cells
              simp only [List.zipIdx_cons, List.foldl_cons, putL]
              rw [ih (k + 1) off, Array.toList_setIfInBounds, Nat.add_assoc]
          exact key us 0 off cells
        rw [← harr] at h
        obtain ⟨arr', h1, h2⟩ := fill_bld pl l arr cs (fun q hq' => hq q (by simp [hq'])) h
        refine ⟨arr', ?_, h2⟩
        have hsz2 : off + k ≤ cells.size := by have := hk.2; simpa using this
        have hne : ¬ (u.cells.size ≠ k || off + u.cells.size > cells.size) = true := by
          simp only [hsz, ne_eq, not_true_eq_false, decide_false, Bool.false_or, decide_eq_true_eq]
          omega
        simp only [List.map_cons, Instr.fill]
        have hp' : pl.toArray[i]? = some (off, k) := by simpa using hp
        rw [hp']
        dsimp only
        rw [if_neg hne]
        exact h1
      · simp at h

theorem q_build {t : TypeId} {parts : Array (Nat × Operand)} {z : Value} {pl : List (Nat × Nat)} [T : BdTy P t z pl] (us : List (Nat × Value × List Value)) {cs : List Value} (ho : o.op = .build t parts) (hp : parts.toList.map (fun p => (p.1, ev F p.2)) = us.map (fun q => (q.1, some q.2.1))) (hc : ∀ q ∈ us, q.2.1.cells.toList = q.2.2) (hb : bld pl z.cells.toList (us.map fun q => (q.1, q.2.2)) = some cs) : R1 P w0 S0 n F L o (.agg cs.toArray) :=
  q_of_pure fun a hf w => by
    have hparts : (parts.map fun (i, x) => (i, a.eval x)).toList = us.map fun q => (q.1, q.2.1) := by
      have key : ∀ (l : List (Nat × Operand)) (m : List (Nat × Value × List Value)), l.map (fun p => (p.1, ev F p.2)) = m.map (fun q => (q.1, some q.2.1)) → l.map (fun (p : Nat × Operand) => (p.1, a.eval p.2)) = m.map fun q => (q.1, q.2.1) := by
        intro l
        induction l with
        | nil => intro m hm; cases m with | nil => rfl | cons _ _ => simp at hm
        | cons x l ih =>
          intro m hm
          cases m with
          | nil => simp at hm
          | cons y m =>
            simp only [List.map_cons, List.cons.injEq, Prod.mk.injEq] at hm ⊢
            refine ⟨⟨hm.1.1, hf.eval hm.1.2⟩, ih m hm.2⟩
      obtain ⟨l⟩ := parts
      simp only [List.map_toArray]
      exact key l us hp
    obtain ⟨fs, hu, hm⟩ := T.ex
    obtain ⟨arr, h1, h2⟩ := fill_bld pl us z.cells cs hc hb
    have e2 : arr = cs.toArray := by
      apply Array.toList_inj.1
      simpa using h2
    subst e2
    have hmm : (fs.toArray.mapM fun (f : Field) => (do pure (f.offset, ← sizeOf f.type) : Sem (Nat × Nat))).run P w = .ok pl.toArray w := by
      rw [Array.mapM_eq_mapM_toList, ← bind_pure_comp, Sem.run_bind]
      exact congrArg (fun r => Result.andThen r fun a w' => Sem.run P (pure a.toArray) w') (hm w)
    simp only [execOp, ho, Instr.build, Sem.run_bind, Sem.run_pure, run_under hu, T.z, Result.andThen_ok, hmm, hparts, h1]

/-! results that stand in slots or in cells -/
def resRun (a : Act) : ResultVar → Sem Value
  | .tmp t => pure (a.tmps.getD t undef)
  | .cell b t => do loadVar t (← asAddr (a.tmps.getD b undef))
def resOk (P : Program) (w0 : World) (S0 : FS) (n : Nat) (F : List (Nat × Value)) (L : List HP) (r : ResultVar) (v : Value) : Prop :=
  ∀ a w, Fr F n a → St w0 S0 L w → (resRun a r).run P w = .ok v w
def resAll (P : Program) (w0 : World) (S0 : FS) (n : Nat) (F : List (Nat × Value)) (L : List HP) : List ResultVar → List Value → Prop
  | [], [] => True
  | r :: rs, v :: vs => resOk P w0 S0 n F L r v ∧ resAll P w0 S0 n F L rs vs
  | _, _ => False
def resV : List Value → Value
  | [v] => v
  | vs => .tuple vs.toArray
theorem res_tmp {t : Nat} (h : fget F t = some v) : resOk P w0 S0 n F L (.tmp t) v := fun a w hf hs => by simp [resRun, hf.look t v h]
theorem res_cellk {b t k tb : Nat} {p off : Nat} {cs us : List Value} [T : AgTy P t k] (h : fget F b = some (.pointer (some ⟨p, off, none⟩))) (hL : boxHP p tb cs ∈ L) (hc : (cs.drop off).take k = us) (hl : us.length = k) : resOk P w0 S0 n F L (.cell b t) (.agg us.toArray) := fun a w hf hs => by
  obtain ⟨S, hsat⟩ := hs.mem hL
  have := run_loadk (P := P) (b := p) (off := off) (w := w) T.agg T.size hl (fun j u hj => by
    have hlt := (List.getElem?_eq_some_iff.1 hj).1
    rw [← hc, List.getElem?_take, if_pos (by omega), List.getElem?_drop] at hj
    simp [World.cell?, hsat.2, hj])
  simp only [Instr.loadAt, Instr.sureAddr, Sem.run_bind, Sem.run_pure, Result.andThen_ok] at this
  simp [resRun, hf.look b _ h, asAddr, this]
theorem res_cell {b t tb : Nat} {p off : Nat} {cs : List Value} [T : ScTy P t] (h : fget F b = some (.pointer (some ⟨p, off, none⟩))) (hL : boxHP p tb cs ∈ L) (hc : cs[off]? = some v) : resOk P w0 S0 n F L (.cell b t) v := fun a w hf hs => by
  obtain ⟨S, hsat⟩ := hs.mem hL
  have hcell : w.cell? ⟨p, off, none⟩ = some v := by simp [World.cell?, hsat.2, hc]
  have := run_load1 T.agg hcell
  simp only [Instr.loadAt, Instr.sureAddr, Sem.run_bind, Sem.run_pure, Result.andThen_ok] at this
  simp [resRun, hf.look b _ h, asAddr, this]

theorem results_all {fn : Func} {rs : List ResultVar} {vs : List Value} {a : Act} {w : World} (hr : fn.results = rs.toArray) (h : resAll P w0 S0 n F L rs vs) (hf : Fr F n a) (hs : St w0 S0 L w) : (results fn a.tmps).run P w = .ok (resV vs) w := by
  have key : ∀ (rs : List ResultVar) (vs : List Value), resAll P w0 S0 n F L rs vs → (rs.mapM (resRun a)).run P w = .ok vs w := by
    intro rs
    induction rs with
    | nil => intro vs h; cases vs with | nil => simp | cons _ _ => exact h.elim
    | cons r rs ih =>
      intro vs h
      cases vs with
      | nil => exact h.elim
      | cons v vs =>
        have h1 := h.1 a w hf hs
        have h2 := ih vs h.2
        simp only [List.mapM_cons, Sem.run_bind, h1, Result.andThen_ok, h2, Sem.run_pure]
  have hk := key rs vs h
  have hmm : (rs.toArray.mapM (resRun a)).run P w = .ok vs.toArray w := by
    rw [Array.mapM_eq_mapM_toList]
    simp [hk]
  have e : results fn a.tmps = (do let vs ← fn.results.mapM (resRun a); pure (if h : vs.size = 1 then vs[0] else .tuple vs)) := by
    unfold results
    congr 1
  rw [e, hr, Sem.run_bind, hmm]
  simp only [Result.andThen_ok, Sem.run_pure]
  match vs with
  | [] => rfl
  | [v] => rfl
  | _ :: _ :: _ => simp [resV]

theorem retL {fn : Func} {w : World} {S : FS} {G : Value → List HP → Prop} (rs : List ResultVar) (vs : List Value) (is : List Nat) {M : List HP} (hr : fn.results = rs.toArray) (h : resAll P w S n F L rs vs) (hL : pick L is = some M) (hG : G (resV vs) M) : Reach w S n F L (bodyPost P fn (Post w S G) .ret) := by
  intro a w' hf hs
  exact ⟨hf.df, _, results_all hr h hf hs, _, M, hG, rfl, hs.pick is hL⟩
theorem retLn {fn : Func} {w : World} {S : FS} {G : Value → List HP → Prop} (rs : List ResultVar) (vs : List Value) (is : List Nat) {M : List HP} (hr : fn.results = rs.toArray) (h : resAll P w S n F L rs vs) (hL : pick L is = some M) (hG : G (resV vs) M) : Reach w S n F L (bodyPost P fn (Post w S G) .normal) := by
  intro a w' hf hs
  exact ⟨hf.df, _, results_all hr h hf hs, _, M, hG, rfl, hs.pick is hL⟩
end
end Go.Sl
