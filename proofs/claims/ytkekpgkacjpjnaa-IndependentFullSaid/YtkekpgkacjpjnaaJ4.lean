/- Of IndependentFull IndependentTwo: part 4: what the walks rest on, contracts of functions and plain lemmas; no condition but those that each states. -/
import Derived.Test.YtkekpgkacjpjnaaJ3
import Derived.RangeFuncIn
import Derived.RangeFuncRecord
import Derived.RangeFuncLeaves
import Derived.RangeFuncCalls
import Derived.Sort.LoopGhostIn
set_option linter.unusedVariables false
set_option linter.unusedSimpArgs false
section
set_option linter.unusedVariables false
set_option linter.unusedSimpArgs false
namespace Go.Sl
open Go Go.RowKit
/-- a block that is no cells -/
def objHP (b : Nat) (o : Obj) : HP where
  sat S w := S b ∧ w.heap[b]? = some o
  mono h h' := ⟨h _ h'.1, h'.2⟩
  move h h' := ⟨h'.1, (h _ h'.1 (Array.getElem?_eq_some_iff.1 h'.2).1).trans h'.2⟩
  bound h := ⟨⟨h.1, (Array.getElem?_eq_some_iff.1 h.2).1⟩, h.2⟩
/-- What is asked of a post: no frame has outgrown the stack. -/
class NL (Q : Exit → Act → World → Prop) : Prop where
  no : ¬ LetsOut Q
instance {K : Act → World → Prop} {Q : Exit → Act → World → Prop} [T : NL Q] : NL (Exit.then K Q) := ⟨fun ⟨a, w, h⟩ => T.no ⟨a, w, h⟩⟩
instance {id : Nat} {Q : Exit → Act → World → Prop} [T : NL Q] : NL (Exit.inBlock id Q) := ⟨fun ⟨a, w, h⟩ => T.no ⟨a, w, h⟩⟩
instance {P : Program} {fn : Func} {w : World} {S : FS} {G : Value → List HP → Prop} : NL (bodyPost P fn (Post w S G)) := ⟨fun ⟨_, _, v, L', _, h, _⟩ => by simp at h⟩
/-- the fence that lets all in, in a round's frame or not -/
abbrev RF (ro : Option Nat) : Fence := { Fence.wide with round := ro }
instance {ro : Option Nat} {m : Nat} {P : Program} {fn : Func} {w : World} {S : FS} {G : Value → List HP → Prop} : NL (bodyPostM (RF ro) m P fn (Post w S G)) := ⟨fun ⟨_, _, v, L', _, h, _⟩ => by simp at h⟩
instance {l : Nat} {P : Program} {R : Ending → World → Prop} : NL (roundPost P l R) := ⟨fun ⟨_, _, h⟩ => h⟩
instance : NL (fun _ _ _ => False) := ⟨fun ⟨_, _, h⟩ => h⟩
def noDef (o : Oper) : Bool := match o.op with
  | .defer _ => false
  | _ => true
section
variable {P : Program} {w0 : World} {S0 : FS} {n m : Nat} {F : List (Nat × Value)} {L : List HP} {o : Oper} {rest : List Oper} {ops : Array Oper} {Q Q' : Exit → Act → World → Prop} {d : Nat} {v : Value} {ro : Option Nat}
theorem rows_in {row : String} {args : Array Value} {w : World} {R : Value → World → Prop} (h : Rows P row args w R) : RowsIn (RF ro) m P row args w R :=
  fun c cs _ => let ⟨v, w', r, s⟩ := h c cs; ⟨v, w', r, (stepsIn_wide (P := P)).2 s⟩
theorem calls_in {f : FuncId} {args : Array Value} {w : World} {R : Ending → World → Prop} (h : Calls P f args w R) : CallsIn (RF ro) m P f args w R :=
  (callsIn_wide (n := m)).2 h
theorem calls_out {f : FuncId} {args : Array Value} {w : World} {R : Ending → World → Prop} (h : CallsIn (RF ro) m P f args w R) : Calls P f args w R :=
  (callsIn_wide (n := m)).1 h
theorem up_in {next next' : Act → World → Prop} {a : Act} {w : World} (ho : noDef o = true) (hQ : ¬ LetsOut Q) (hp : ∀ c a w, Q (.panic c) a w → Q' (.panic c) a w) (hn : ∀ a w, next a w → next' a w) (h : o.wp P a w next Q) : o.wpIn (RF ro) m P a w next' Q' := by
  refine ⟨fun _ _ => trivial, ?_⟩
  rw [Oper.semAt_eq ro _ o (fun c e => by rw [noDef, e] at ho; simp at ho)]
  unfold Oper.wp at h
  revert h
  generalize (execOp a.eval o).run P w = r
  intro h
  have key : ∀ f (args : Array Value) w', Calls P f args w' (fun
      | .returned v, w'' => next (a.put o.dst v) w''
      | .panicked chain, w'' => Q (.panic chain) a w''
      | .outgrown, _ => LetsOut Q) → CallsIn (RF ro) (m - 1) P f args w' (fun
      | .returned v, w'' => next' (a.put o.dst v) w''
      | .panicked chain, w'' => Q' (.panic chain) a w''
      | .outgrown, _ => LetsOut Q') := fun f args w' hc => calls_in (hc.mono fun e w'' he => by
    cases e with
    | returned v => exact hn _ _ he
    | panicked c => exact hp _ _ _ he
    | outgrown => exact (hQ he).elim)
  cases r with
  | ok nx w' =>
    cases nx with
    | value v => exact hn _ _ h
    | skip => exact hn _ _ h
    | defer d => exact hn _ _ h
    | enter f args => exact ⟨fun h => by simp [Fence.wide] at h, key f args w' h⟩
    | row row args => exact ⟨fun h => by simp [Fence.wide] at h, (rows_in h : RowsIn (RF ro) (m - 1) P row args w' _).mono fun v w'' h => hn _ _ h⟩
    | _ => exact h.elim
  | halt e w' =>
    cases e with
    | panic v => exact hp _ _ _ h
    | _ => exact h.elim
theorem list_in [T : NL Q] (rest2 : List Oper) : ∀ (pre : List Oper), pre.all noDef = true → ∀ a w, wpList P ops (Exit.then (wpListIn (RF ro) m P ops Q rest2) Q) pre a w → wpListIn (RF ro) m P ops Q (pre ++ rest2) a w
  | [], _, a, w, h => h
  | o :: pre, hd, a, w, h => by
    rw [List.all_cons, Bool.and_eq_true] at hd
    have ih := list_in rest2 pre hd.2
    simp only [List.cons_append, wpListIn]
    simp only [wpList] at h
    split
    · rename_i hw
      rw [if_pos hw] at h
      rcases h with h | ⟨_, h⟩
      · exact up_in hd.1 (fun ⟨a, w, h⟩ => T.no ⟨a, w, h⟩) (fun c a w h => h) ih h
      · exact (T.no (by obtain ⟨a, w, h⟩ := h; exact ⟨a, w, h⟩)).elim
    · rename_i hw
      rw [if_neg hw] at h
      exact ⟨fun _ _ => trivial, ih _ _ h⟩
theorem list_in0 [T : NL Q] {rest : List Oper} (hd : rest.all noDef = true) {a : Act} {w : World} (h : wpList P ops Q rest a w) : wpListIn (RF ro) m P ops Q rest a w := by
  have := list_in (P := P) (ops := ops) (Q := Q) (ro := ro) (m := m) [] rest hd a w
  rw [List.append_nil] at this
  refine this ?_
  have e : Exit.then (wpListIn (RF ro) m P ops Q []) Q = Q := by funext e a w; cases e <;> rfl
  rw [e]; exact h
theorem x_seq {x y : Code} (h : Reach w0 S0 n F L (x.wpIn (RF ro) m P (Exit.then (y.wpIn (RF ro) m P Q) Q))) : Reach w0 S0 n F L ((Code.seq x y).wpIn (RF ro) m P Q) := fun a w hf hs => wpIn_seq (h a w hf hs)
theorem x_skip (h : Reach w0 S0 n F L (Q .normal)) : Reach w0 S0 n F L (Code.skip.wpIn (RF ro) m P Q) := fun a w hf hs => wpIn_skip (h a w hf hs)
theorem x_exit {id : Nat} (h : Reach w0 S0 n F L (Q (.exit id))) : Reach w0 S0 n F L ((Code.exit id).wpIn (RF ro) m P Q) := fun a w hf hs => wpIn_exit (h a w hf hs)
theorem x_block {id : Nat} {c : Code} (h : Reach w0 S0 n F L (c.wpIn (RF ro) m P (Exit.inBlock id Q))) : Reach w0 S0 n F L ((Code.block id c).wpIn (RF ro) m P Q) := fun a w hf hs => wpIn_block (h a w hf hs)
theorem x_cond {c : Operand} {x y : Code} {t : Bool} (hc : ev F c = some (.bool t)) (ht : t = true → Reach w0 S0 n F L (x.wpIn (RF ro) m P Q)) (hf : t = false → Reach w0 S0 n F L (y.wpIn (RF ro) m P Q)) : Reach w0 S0 n F L ((Code.cond c x y).wpIn (RF ro) m P Q) :=
  fun a w hfr hs => by
    cases t with
    | true => exact wpIn_cond (hfr.eval hc) (ht rfl a w hfr hs)
    | false => exact wpIn_cond (hfr.eval hc) (hf rfl a w hfr hs)
theorem x_cond_p {c : Operand} {x y : Code} {p : Prop} [Decidable p] (hc : ev F c = some (.bool (decide p))) (ht : p → Reach w0 S0 n F L (x.wpIn (RF ro) m P Q)) (hf : ¬ p → Reach w0 S0 n F L (y.wpIn (RF ro) m P Q)) : Reach w0 S0 n F L ((Code.cond c x y).wpIn (RF ro) m P Q) :=
  x_cond hc (fun h => ht (of_decide_eq_true h)) (fun h => hf (of_decide_eq_false h))
theorem x_cond_t {c : Operand} {x y : Code} (hc : ev F c = some (.bool true)) (h : Reach w0 S0 n F L (x.wpIn (RF ro) m P Q)) : Reach w0 S0 n F L ((Code.cond c x y).wpIn (RF ro) m P Q) := x_cond hc (fun _ => h) (fun h => by simp at h)
theorem x_cond_f {c : Operand} {x y : Code} (hc : ev F c = some (.bool false)) (h : Reach w0 S0 n F L (y.wpIn (RF ro) m P Q)) : Reach w0 S0 n F L ((Code.cond c x y).wpIn (RF ro) m P Q) := x_cond hc (fun h => by simp at h) (fun _ => h)
theorem x_region {id : Nat} {l : List Oper} [NL Q] (hd : l.all noDef = true) (h : Reach w0 S0 n F L (wpList P l.toArray Q l)) : Reach w0 S0 n F L ((Code.region id l.toArray false).wpIn (RF ro) m P Q) := fun a w hf hs => wpIn_region_lit (list_in0 hd (h a w hf hs))
theorem x_loop {X : Type} {c : Code} (I : X → Prop) (IF : X → List (Nat × Value)) (IL : X → List HP) (μ : X → Nat) (x0 : X) (is : List Nat) (h0 : I x0) (hL : pick L is = some (IL x0)) (hF : covers F (IF x0))
    (round : ∀ x, I x → Reach w0 S0 n (IF x) (IL x) (c.wpIn (RF ro) m P (Exit.then (fun a w => ∃ y, I y ∧ μ y < μ x ∧ Fr (IF y) n a ∧ St w0 S0 (IL y) w) Q))) : Reach w0 S0 n F L ((Code.loop c).wpIn (RF ro) m P Q) := by
  intro a w hf hs
  refine wpIn_loop_ghost (fun k a w => ∃ x, I x ∧ μ x = k ∧ Fr (IF x) n a ∧ St w0 S0 (IL x) w) (μ x0) ⟨x0, h0, rfl, hf.weaken (covers_spec hF), hs.pick is hL⟩ ?_
  rintro k a w ⟨x, hx, rfl, hf, hs⟩
  refine wpIn_mono (round x hx a w hf hs) ?_
  intro e a w h
  cases e <;> first | exact h | (obtain ⟨y, hi, hy, hf, hs⟩ := h; exact ⟨μ y, hy, y, hi, rfl, hf, hs⟩)
theorem c_region_y {id : Nat} {l : List Oper} (pre rest2 : List Oper) [NL Q] (hl : l = pre ++ rest2) (hd : pre.all noDef = true) (h : Reach w0 S0 n F L (wpList P l.toArray (Exit.then (wpListIn (RF none) 0 P l.toArray Q rest2) Q) pre)) : Reach w0 S0 n F L ((Code.region id l.toArray false).wp P Q) :=
  fun a w hf hs => (wpIn_wide (n := 0)).1 (wpIn_region_lit (F := RF none) (by
    have := list_in (P := P) (ops := l.toArray) (Q := Q) (ro := none) (m := 0) rest2 pre hd a w (h a w hf hs)
    rwa [← hl] at this))
theorem y_rest [NL Q] (hd : rest.all noDef = true) (h : Reach w0 S0 n F L (wpList P ops Q rest)) : Reach w0 S0 n F L (wpListIn (RF ro) m P ops Q rest) := fun a w hf hs => list_in0 hd (h a w hf hs)
/-- what a call of yield comes to -/
def YieldOK (P : Program) (l : Nat) (vs : List Value) (W : World) (R : World → Prop) : Prop :=
  ∃ f tmps assign body, (Instr.yield l vs.toArray).run P W = .ok (.round l f tmps assign body) W ∧ ∀ m, RoundIn (RF none) m P l f tmps assign body W fun e W' => e = .returned (.bool true) ∧ R W'
/-- What an iterator does: it hands on N lists of values, one behind the other; a round turns a list of entries of the kind LL i into one of the kind LL (i + 1). -/
def IterOK (P : Program) (it : FuncId) (caps : List Value) (N : Nat) (vs : Nat → List Value) (w : World) (S : FS) : Prop :=
  ∀ (l : Nat) (LL : Nat → List HP → Prop),
    (∀ i M W' S', i < N → LL i M → Mod w S W' S' → sats M S' W' → YieldOK P l (vs i) W' fun W2 => ∃ M' S2, LL (i + 1) M' ∧ Mod W' S' W2 S2 ∧ sats M' S2 W2) →
    ∀ M, LL 0 M → sats M S w → Calls P it (Value.func (.yield l) #[] #[] :: caps).toArray w (Post w S fun _ L' => LL N L')
/-- the call of yield, in the iterator -/
theorem y_yield {c : Operand} {xs : Array Operand} {ts : Array TypeId} {ty : TypeId} {ps : String} {af : Array Edge} {l : Nat} {vs : List Value} {K : List HP → Prop} (hc : ev F c = some (.func (.yield l) #[] #[])) (hn : Nat.blt d n = true) (hxs : xs.toList.map (ev F) = vs.map some)
    (hy : ∀ W S, Mod w0 S0 W S → sats L S W → YieldOK P l vs W fun W2 => ∃ M' S2, K M' ∧ Mod W S W2 S2 ∧ sats M' S2 W2)
    (h : ∀ M', K M' → Reach w0 S0 n ((d, .bool true) :: F) M' (wpListIn (RF ro) m P ops Q rest)) : Reach w0 S0 n F L (wpListIn (RF ro) m P ops Q (⟨some d, .call { callee := .value c, args := xs, argTypes := ts }, ty, ps, af, none⟩ :: rest)) := by
  intro a w hf hs
  refine wpListIn_plain rfl fun K' hK' => ?_
  obtain ⟨S, hm, hl⟩ := hs
  obtain ⟨f, tmps, assign, body, hyr, hR⟩ := hy w S hm hl
  have hargs : xs.map a.eval = vs.toArray := by
    have : ∀ (l : List Operand) (us : List Value), l.map (ev F) = us.map some → l.map a.eval = us := by
      intro l
      induction l with
      | nil => intro us hu; cases us with | nil => rfl | cons _ _ => simp at hu
      | cons x l ih =>
        intro us hu
        cases us with
        | nil => simp at hu
        | cons u us =>
          simp only [List.map_cons, List.cons.injEq] at hu ⊢
          exact ⟨hf.eval hu.1, ih us hu.2⟩
    obtain ⟨l⟩ := xs
    rw [List.map_toArray, this l vs hxs]
  refine ⟨fun _ _ => trivial, ?_⟩
  rw [Oper.semAt_eq ro _ _ (fun c e => by simp at e)]
  have hr : (execOp a.eval ⟨some d, .call { callee := .value c, args := xs, argTypes := ts }, ty, ps, af, none⟩).run P w = .ok (.round l f tmps assign body) w := by
    have e : a.eval c = .func (.yield l) #[] #[] := hf.eval hc
    simp only [execOp, resolve, hargs, e, Deferred.ofValue, invoke, Sem.run_bind, Sem.run_pure, Result.andThen_ok, Array.append_empty, Array.empty_append, hyr]
  rw [hr, Oper.uponIn_round]
  refine ⟨fun h => by simp [Fence.wide] at h, (hR (m - 1)).mono ?_⟩
  rintro e W' ⟨rfl, M', S2, hk, hm2, hs2⟩
  exact hK' _ _ (h M' hk _ _ (hf.put hn) ⟨S2, hm.trans hm2, hs2⟩)
theorem c_region_k {id : Nat} {l : List Oper} (k : Nat) [NL Q] (hd : (l.take k).all noDef = true) (h : Reach w0 S0 n F L (wpList P l.toArray (Exit.then (wpListIn (RF none) 0 P l.toArray Q (l.drop k)) Q) (l.take k))) : Reach w0 S0 n F L ((Code.region id l.toArray false).wp P Q) :=
  c_region_y (l.take k) (l.drop k) (List.take_append_drop k l).symm hd h
theorem pick_id : ∀ (L : List HP), pick L (List.replicate L.length 0) = some L
  | [] => rfl
  | A :: L => by
    show (match (A :: L)[0]?, pick ((A :: L).eraseIdx 0) (List.replicate L.length 0) with | some A, some M => some (A :: M) | _, _ => none) = _
    rw [List.eraseIdx_zero, List.tail_cons, pick_id L]
    rfl
theorem RO.fwd {w : World} {S Sf : FS} {ys : List Value} (hr : RO w0 S0 v ys) (hm0 : Mod w0 S0 w Sf) (hS : ∀ k, S k → Sf k) : RO w S v ys := fun w' S' hm =>
  hr w' (fun k => Sf k ∨ S' k) (hm0.trans ⟨hm.os, hm.tape, hm.output, hm.size, fun k hk hn => hm.keep k hk (fun h => hn (hS k h)), fun k hk => hk.elim .inl (fun h => (hm.new k h).imp (hS k) id)⟩)
theorem RB.fwd {w : World} {S Sf : FS} {b : Nat} {t : TypeId} {cs : List Value} (hr : RB w0 S0 b t cs) (hm0 : Mod w0 S0 w Sf) (hS : ∀ k, S k → Sf k) : RB w S b t cs := fun w' S' hm =>
  hr w' (fun k => Sf k ∨ S' k) (hm0.trans ⟨hm.os, hm.tape, hm.output, hm.size, fun k hk hn => hm.keep k hk (fun h => hn (hS k h)), fun k hk => hk.elim .inl (fun h => (hm.new k h).imp (hS k) id)⟩)
theorem mod_putObj {w : World} {S : FS} {b : Nat} {x : Obj} (hb : S b) : Mod w S (w.putObj b x) S :=
  ⟨rfl, rfl, rfl, by simp, fun k hk hn => World.putObj_heap_other (fun e => hn (e ▸ hb)), fun k h => .inl h⟩
theorem putObj_at {w : World} {b : Nat} {x y : Obj} (h : w.heap[b]? = some y) : (w.putObj b x).heap[b]? = some x := by
  have hlt := (Array.getElem?_eq_some_iff.1 h).1
  simp [World.putObj, hlt]
theorem St.obj {w : World} {b j : Nat} {x : Obj} (h : St w0 S0 L w) (hj : L[j]? = some (objHP b x)) : w.heap[b]? = some x := by
  obtain ⟨S, hs⟩ := h.mem (List.mem_of_getElem? hj)
  exact hs.2
theorem St.turn {w : World} {b j : Nat} {x : Obj} (y : Obj) (h : St w0 S0 L w) (hj : L[j]? = some (objHP b x)) : St w0 S0 (L.set j (objHP b y)) (w.putObj b y) :=
  h.step hj fun S hs => ⟨S, mod_putObj hs.1, hs.1, putObj_at hs.2⟩
theorem fr_params : ∀ (ps : List Nat) (vs : List Value) {F : List (Nat × Value)} {t : Array Value}, ps.all (fun p => Nat.blt p n) = true → Fr F n { tmps := t, defers := [] } → Fr ((ps.zip vs).reverse ++ F) n { tmps := (ps.zip vs).foldl (fun t (p, v) => t.setIfInBounds p v) t, defers := [] }
  | [], vs, F, t, _, h => by simpa using h
  | p :: ps, [], F, t, _, h => by simpa using h
  | p :: ps, v :: vs, F, t, hp, h => by
    rw [List.all_cons, Bool.and_eq_true] at hp
    have := fr_params ps vs hp.2 (h.put (d := p) (v := v) hp.1)
    simpa [Act.put, List.append_assoc] using this
/-- the round begins -/
theorem r_begin {l j : Nat} {r : Loop} {K : Act → World → Prop} (hj : L[j]? = some (objHP l (.loop r))) (hr : r.state = .ready) (h : Reach w0 S0 n F (L.set j (objHP l (.loop { r with state := .busy }))) K) :
    Reach w0 S0 n F L (fun a w => ∃ w', (Instr.beginRound l).run P w = .ok () w' ∧ K a w') := fun a w hf hs =>
  ⟨_, run_beginRound (hs.obj hj) hr, h a _ hf (hs.turn _ hj)⟩
/-- the round ends -/
theorem r_end {l j : Nat} {r : Loop} {R : Ending → World → Prop} (is : List Nat) {M : List HP} (hj : L[j]? = some (objHP l (.loop r))) (hp : pick (L.set j (objHP l (.loop { r with state := .ready, pending := none }))) is = some M)
    (hR : ∀ W, St w0 S0 M W → R (.returned (.bool true)) W) : Reach w0 S0 n F L (roundPost P l R .normal) := fun a w hf hs =>
  ⟨_, _, run_endRound none (hs.obj hj), hR _ ((hs.turn _ hj).pick is hp)⟩
theorem yield_ok {W : World} {S : FS} {M : List HP} {l j : Nat} {r : Loop} {ps : List Nat} {vs : List Value} {R : World → Prop} (hj : M[j]? = some (objHP l (.loop r))) (hps : r.params = ps.toArray) (hpn : ps.all (fun p => Nat.blt p n) = true) (hlen : vs.length = ps.length) (hs : sats M S W) (hF : Fr F n { tmps := r.tmps, defers := [] })
    (h : ∀ m, Reach W S n ((ps.zip vs).reverse ++ F) M (r.assign.wpIn (RF (some l)) m P (Exit.then (fun a₁ w₁ => ∃ w₂, (Instr.beginRound l).run P w₁ = .ok () w₂ ∧ r.body.wpIn (RF (some l)) m P (roundPost P l fun e W' => e = .returned (.bool true) ∧ R W') a₁ w₂) (fun _ _ _ => False)))) : YieldOK P l vs W R := by
  have hSt : St W S M W := St.start hs
  refine ⟨r.fn, _, r.assign, r.body, run_yield (hSt.obj hj) (by simp [hps, hlen]), fun m => roundIn_of_wpIn trivial ?_⟩
  have hf := fr_params ps vs hpn hF
  refine h m _ W ?_ hSt
  have e : (r.params.zip vs.toArray).foldl (fun tmps (t, a) => tmps.setIfInBounds t a) r.tmps = (ps.zip vs).foldl (fun t (p, v) => t.setIfInBounds p v) r.tmps := by
    rw [hps, ← Array.foldl_toList]
    simp
  rw [e]
  exact hf
def actM (D : Nat) (a : Act) : Act := { a with defers := { target := .collected D, args := #[] } :: a.defers }
/-- operations that stand behind such a statement -/
def tailOp (o : Oper) : Bool := match o.op with
  | .load .. | .assign _ | .move _ | .store .. => true
  | _ => false
theorem tail_run {a : Act} {w : World} (ho : tailOp o = true) : (∃ v w', (execOp a.eval o).run P w = .ok (.value v) w') ∨ (∃ w', (execOp a.eval o).run P w = .ok .skip w') ∨ (∃ e w', (execOp a.eval o).run P w = .halt e w') := by
  unfold tailOp at ho
  split at ho
  · rename_i t x e
    simp only [execOp, e, Sem.run_bind]
    cases (Instr.loadAt t (a.eval x)).run P w with
    | ok v w' => exact .inl ⟨v, w', rfl⟩
    | halt e w' => exact .inr (.inr ⟨e, w', rfl⟩)
  · rename_i x e
    simp only [execOp, e]
    exact .inl ⟨_, _, rfl⟩
  · rename_i x e
    simp only [execOp, e]
    exact .inl ⟨_, _, rfl⟩
  · rename_i t x y e
    simp only [execOp, e, Sem.run_bind]
    cases (Instr.storeAt t (a.eval x) (a.eval y)).run P w with
    | ok v w' => exact .inr (.inl ⟨w', rfl⟩)
    | halt e w' => exact .inr (.inr ⟨e, w', rfl⟩)
  · simp at ho
theorem actM_put (D : Nat) (a : Act) (d : Option Nat) (v : Value) : (actM D a).put d v = actM D (a.put d v) := by cases d <;> rfl
theorem up_M {next next' : Act → World → Prop} {a : Act} {w : World} {D : Nat} (ho : tailOp o = true) (hp : ∀ c a w, Q (.panic c) a w → Q' (.panic c) (actM D a) w) (hn : ∀ a w, next a w → next' (actM D a) w) (h : o.wp P a w next Q) : o.wp P (actM D a) w next' Q' := by
  unfold Oper.wp at h ⊢
  have he : execOp (actM D a).eval o = execOp a.eval o := rfl
  rw [he]
  rcases tail_run (P := P) (a := a) (w := w) ho with ⟨v, w', e⟩ | ⟨w', e⟩ | ⟨e', w', e⟩
  · rw [e] at h ⊢
    show next' ((actM D a).put o.dst v) w'
    rw [actM_put]
    exact hn _ _ h
  · rw [e] at h ⊢
    show next' ((actM D a).put o.dst undef) w'
    rw [actM_put]
    exact hn _ _ h
  · rw [e] at h ⊢
    cases e' with
    | panic v => exact hp _ _ _ h
    | _ => exact h.elim
theorem list_M {D : Nat} [T : NL Q] : ∀ (rest : List Oper), rest.all tailOp = true → ∀ a w, wpList P ops (fun e a w => Q e (actM D a) w) rest a w → wpList P ops Q rest (actM D a) w
  | [], _, a, w, h => h
  | o :: rest, ho, a, w, h => by
    rw [List.all_cons, Bool.and_eq_true] at ho
    have ih := list_M (D := D) rest ho.2
    simp only [wpList] at h ⊢
    have hw' : Region.wanted o (yielded ops (actM D a).tmps) = Region.wanted o (yielded ops a.tmps) := rfl
    rw [hw']
    split
    · rename_i hw
      rw [if_pos hw] at h
      rcases h with h | ⟨_, a', w', h⟩
      · exact .inl (up_M ho.1 (fun c a w h => h) ih h)
      · exact (T.no ⟨_, _, h⟩).elim
    · rename_i hw
      rw [if_neg hw] at h
      have := ih _ _ h
      rwa [← actM_put] at this
theorem m_seq {D : Nat} {x y : Code} (h : Reach w0 S0 n F L (fun a w => x.wp P (Exit.then (y.wp P Q) Q) (actM D a) w)) : Reach w0 S0 n F L (fun a w => (Code.seq x y).wp P Q (actM D a) w) := fun a w hf hs => wp_seq (h a w hf hs)
theorem m_region {D : Nat} {id : Nat} {l : List Oper} [NL Q] (hd : l.all tailOp = true) (h : Reach w0 S0 n F L (wpList P l.toArray (fun e a w => Q e (actM D a) w) l)) : Reach w0 S0 n F L (fun a w => (Code.region id l.toArray false).wp P Q (actM D a) w) := fun a w hf hs => wp_region_lit (list_M l hd _ _ (h a w hf hs))
theorem m_then {D : Nat} {K : Act → World → Prop} (h : Reach w0 S0 n F L (fun a w => K (actM D a) w)) : Reach w0 S0 n F L (fun a w => Exit.then K Q .normal (actM D a) w) := h
theorem m_blk {D : Nat} {id : Nat} (h : Reach w0 S0 n F L (fun a w => Q .normal (actM D a) w)) : Reach w0 S0 n F L (fun a w => Exit.inBlock id Q .normal (actM D a) w) := h
theorem m_ret {D : Nat} (h : Reach w0 S0 n F L (fun a w => Q .ret (actM D a) w)) : Reach w0 S0 n F L (fun a w => Code.ret.wp P Q (actM D a) w) := fun a w hf hs => wp_ret (h a w hf hs)
/-- the return: the mark is come to -/
theorem m_end {D j : Nat} {fn : Func} {R : Ending → World → Prop} (hj : L[j]? = some (objHP D (.deferred (some [])))) (h : Reach w0 S0 n F (L.set j (objHP D (.deferred none))) (bodyPost P fn R .ret)) : Reach w0 S0 n F L (fun a w => bodyPostM (RF none) m P fn R .ret (actM D a) w) := by
  intro a w hf hs
  obtain ⟨hd, v, hr, hR⟩ := h a _ hf (hs.turn (.deferred none) hj)
  refine ⟨by simp, .inl ⟨D, _, rfl, run_takeDeferred (hs.obj hj), ?_⟩⟩
  show LeavesInM (RF none) m P fn a.tmps R a.defers .returning _
  rw [hd]
  exact ⟨v, hr, hR⟩
/-- a function in which such a statement stands -/
theorem enterM0 {f : FuncId} {fn : Func} {c : Code} {vs : List Value} {w : World} {G : Value → List HP → Prop} (hf : P.funcs[f]? = some fn) (hb : fn.body = some c) (hn : fn.ntmps = n) (hl : Nat.ble vs.length n = true)
    (h : Reach w No n (argsF 0 vs) [] (c.wp P (bodyPostM (RF none) 0 P fn (Post w No G)))) : Calls P f vs.toArray w (Post w No G) := by
  refine calls_out (m := 0) (ro := none) (callsIn_of_wp_marks hf hb trivial ((wpIn_wide (n := 0)).2 (h _ _ ⟨rfl, ?_, ?_⟩ (St.start trivial))) rfl)
  · have : vs.length ≤ n := by simpa using hl
    simp [hn]; omega
  · intro t u ht
    obtain ⟨j, rfl, hj⟩ := argsF_get vs 0 t u ht
    have hlt := (List.getElem?_eq_some_iff.1 hj).1
    simp only [Nat.zero_add, Array.getD_eq_getD_getElem?]
    rw [Array.getElem?_append_left (by simpa using hlt)]
    simp [hj]
/-- THE STATEMENT -/
theorem c_range {g : Operand} {ps : List Nat} {assign body : Code} [NL Q] (it : FuncId) (caps : List Value) (M0 Lr : List HP) (N : Nat) (vs : Nat → List Value) (LL : Nat → List HP → Prop) [T : FnTy P it] (hLL : L = M0 ++ Lr) (hg : ev F g = some (.func (.func it) #[] caps.toArray)) (hps : ps.all (fun p => Nat.blt p n) = true) (hlen : ∀ i, (vs i).length = ps.length)
    (hIt : ∀ w S M, Lent w0 S0 M Lr S w → IterOK P it caps N vs w S) (h0 : LL 0 M0)
    (hround : ∀ i M M2 W S l D (r : Loop) m, i < N → LL i M → M2 = objHP l (.loop r) :: objHP D (.deferred (some [])) :: M → Lent w0 S0 M2 Lr S W → r.state = .ready →
      Reach W S n ((ps.zip (vs i)).reverse ++ F) M2 (assign.wpIn (RF (some l)) m P (Exit.then (fun a₁ w₁ => ∃ w₂, (Instr.beginRound l).run P w₁ = .ok () w₂ ∧ body.wpIn (RF (some l)) m P (roundPost P l fun e W2 => e = .returned (.bool true) ∧ ∃ M' S2, (∃ M3, LL (i + 1) M3 ∧ M' = objHP l (.loop { r with state := .ready, pending := none }) :: objHP D (.deferred (some [])) :: M3) ∧ Mod W S W2 S2 ∧ sats M' S2 W2) a₁ w₂) (fun _ _ _ => False))))
    (hdone : ∀ M l D (r : Loop), LL N M → Reach w0 S0 n F (objHP l (.loop r) :: objHP D (.deferred (some [])) :: M ++ Lr) (fun a w => Q .normal (actM D a) w)) :
    Reach w0 S0 n F L ((Code.rangeFunc g ps.toArray assign body).wp P Q) := by
  subst hLL
  intro a w hf hs
  refine (wpIn_wide (n := 0)).1 (wpIn_rangeFunc fun fn _ => ?_)
  let D := w.heap.size
  let r : Loop := { state := .ready, pending := none, fn, tmps := a.tmps, params := ps.toArray, assign, body, defers := w.heap.size }
  let w1 := (w.alloc (.deferred (some []))).alloc (.loop r)
  have hs1 : St w0 S0 (objHP (w.heap.size + 1) (.loop r) :: objHP w.heap.size (.deferred (some [])) :: (M0 ++ Lr)) w1 := by
    have h1 : St w0 S0 ([objHP w.heap.size (.deferred (some []))] ++ (M0 ++ Lr)) (w.alloc (.deferred (some []))) := hs.push (mod_alloc w _) ⟨fun k => w.heap.size ≤ k, fun _ => False, fun k hk => hk, fun k hk => hk.elim, fun k _ hk => hk, ⟨Nat.le_refl _, World.alloc_heap_new w _⟩, trivial⟩
    have h2 := h1.push (M := [objHP (w.heap.size + 1) (.loop r)]) (mod_alloc (w.alloc (.deferred (some []))) (.loop r)) ⟨fun k => w.heap.size + 1 ≤ k, fun _ => False, fun k hk => by simpa using hk, fun k hk => hk.elim, fun k _ hk => hk, ⟨Nat.le_refl _, by have := World.alloc_heap_new (w.alloc (.deferred (some []))) (.loop r); rwa [World.size_alloc] at this⟩, trivial⟩
    exact h2
  obtain ⟨S, Sr, Sf, hm0, hsM, hsr, hSf, hSr, hdis⟩ := St.lend (L0 := objHP (w.heap.size + 1) (.loop r) :: objHP w.heap.size (.deferred (some [])) :: M0) (Lr := Lr) hs1
  have hlent : ∀ M W' S', Mod w1 S W' S' → sats M S' W' → Lent w0 S0 M Lr S' W' := fun M W' S' hm hl => by
    refine ⟨hl, ⟨fun k => Sf k ∨ S' k, ?_, fun k hk => .inr hk⟩, ⟨Sr, sats_move (fun k hk hlt => hm.keep k hlt (fun h => hdis k h hk)) hsr, fun k hk hk2 => ?_⟩⟩
    · exact hm0.trans ⟨hm.os, hm.tape, hm.output, hm.size, fun k hk hn => hm.keep k hk (fun h => hn (hSf k h)), fun k hk => hk.elim .inl (fun h => (hm.new k h).imp (hSf k) id)⟩
    · rcases hm.new k hk with h | h
      · exact hdis k h hk2
      · have := (hSr k hk2).2; omega
  have hL0 := hlent _ w1 S (Mod.refl _ _) hsM
  have hfr : Fr F n { tmps := r.tmps, defers := [] } := ⟨rfl, hf.sz, hf.look⟩
  have hcall := hIt w1 S _ hL0 (w.heap.size + 1) (fun i M' => ∃ M3, LL i M3 ∧ M' = objHP (w.heap.size + 1) (.loop r) :: objHP w.heap.size (.deferred (some [])) :: M3) (fun i M W' S' hi hM hm hl => by
    obtain ⟨M3, hM3, rfl⟩ := hM
    refine yield_ok (j := 0) (r := r) (ps := ps) rfl rfl hps (hlen i) hl hfr fun m => ?_
    exact hround i M3 _ W' S' (w.heap.size + 1) w.heap.size r m hi hM3 rfl (hlent _ W' S' hm hl) rfl) _ ⟨M0, h0, rfl⟩ hsM
  refine ⟨w.heap.size + 1, [{ target := .collected w.heap.size, args := #[] }], w1, { target := .fn (.func it) caps.toArray, args := #[.func (.yield (w.heap.size + 1)) #[] #[]] }, w1, it, (Value.func (.yield (w.heap.size + 1)) #[] #[] :: caps).toArray, w1, run_enterLoop_outer .., ?_, fun _ _ => trivial, ?_, fun h => by simp [Fence.wide] at h, ?_⟩
  · have e : a.eval g = .func (.func it) #[] caps.toArray := hf.eval hg
    simp only [resolve, rangeCall, e, Deferred.ofValue, Sem.run_pure, List.map_toArray, List.map_cons, List.map_nil, Array.empty_append]
    rfl
  · simp only [invoke]
    have := T.c (#[.func (.yield (w.heap.size + 1)) #[] #[]] ++ caps.toArray) w1
    simpa using this
  · refine (calls_in (ro := none) (m := 0 - 1) hcall).mono ?_
    rintro e w3 ⟨v, L', ⟨M3, hM3, rfl⟩, rfl, S3, hm3, hl3⟩
    have hst : St w0 S0 (objHP (w.heap.size + 1) (.loop r) :: objHP w.heap.size (.deferred (some [])) :: M3 ++ Lr) w3 := by
      have hsr' : sats Lr Sr w3 := sats_move (fun k hk hlt => hm3.keep k hlt (fun h => hdis k h hk)) hsr
      refine ⟨fun k => S3 k ∨ Sr k, hm0.trans ⟨hm3.os, hm3.tape, hm3.output, hm3.size, fun k hk hn => hm3.keep k hk (fun h => hn (hSf k h)), ?_⟩, sats_append hl3 hsr' ?_⟩
      · rintro k (hk | hk)
        · exact (hm3.new k hk).imp (hSf k) id
        · exact .inl (hSr k hk).1
      · intro k hk hk2
        rcases hm3.new k hk with h | h
        · exact hdis k h hk2
        · have := (hSr k hk2).2; omega
    refine ⟨none, _, run_endLoop (hst.obj (j := 0) rfl) (by simp [r]), ?_⟩
    exact hdone M3 _ _ _ hM3 a _ hf (hst.turn (j := 0) _ rfl)
end
end Go.Sl
end
section
namespace Go.Proofs.Ytkekpgkacjpjnaa
open Go.RowKit Go.Sl Fil
set_option maxRecDepth 100000
set_option maxHeartbeats 8000000
set_option linter.unusedVariables false
set_option linter.unusedSimpArgs false
attribute [local irreducible] Code.wp wpList bodyPost wpQuiet Exit.then Exit.inBlock Post wpAnyH wpOp
theorem values1_ok (b : Nat) (v : Value) (xs : List Nat) (w : World) (S : FS) (hb : RB w S b 27 [v]) (hs : Shp v xs.length) (hr : RO w S v (nV xs)) :
    IterOK Try.prog 100 [.pointer (some ⟨b, 0, none⟩)] xs.length (fun i => [.int .i64 ((xs.getD i 0 : Nat) : Int)]) w S := by
  intro l LL hy M hM hsat
  have hm := hs.1
  simp only [maxLen] at hm
  refine enter (vs := [_, _]) Try.func100 rfl Try.ntmps100 rfl hsat ?_
  repeat' first
    | refine k_then ?_
    | refine c_seq ?_
    | refine c_region ?_
    | refine s_nil ?_
    | refine s_move (by exact rfl) (by exact rfl) ?_
    | refine s_len (by exact rfl) (by exact rfl) (by assumption) ?_
    | refine s_ld_rb (by exact rfl) (by exact rfl) (by assumption) (by exact rfl) ?_
    | refine c_block ?_
  refine c_loop (fun x : Nat × List HP => x.1 ≤ xs.length ∧ LL x.1 x.2) (fun x => [(0, .func (.yield l) #[] #[]), (5, v), (6, .int .i64 (xs.length : Int)), (7, .int .i64 (x.1 : Int))]) (fun x => x.2) (fun x => xs.length - x.1) (0, M) (List.replicate M.length 0) ⟨by simp, hM⟩ (pick_id M) ⟨rfl, rfl, rfl, rfl, trivial⟩ ?_
  clear hM hsat
  rintro ⟨i, M⟩ ⟨hi, hM⟩
  dsimp only at hi hM ⊢
  by_cases hil : i < xs.length
  · have hci := nV_get hil
    generalize hreg : Code.region 3 _ _ = creg
    repeat' first
      | refine k_then ?_
      | refine c_seq ?_
      | refine c_region ?_
      | refine s_nil ?_
      | refine s_assign (by exact rfl) (by exact rfl) ?_
      | refine s_lss (by exact rfl) (by exact rfl) (by exact rfl) ?_
      | refine s_idx (by exact rfl) (by exact rfl) (by exact rfl) (by assumption) (by first | assumption | omega) ?_
      | refine s_ld_ro (by exact rfl) (by exact rfl) (by assumption) (by assumption) ?_
      | refine c_block ?_
      | refine c_skip ?_
      | (refine c_cond_p (by exact rfl) (fun h => ?_) (fun h => ?_) <;> try (exfalso; omega))
    subst hreg
    refine c_region_k 2 (by exact rfl) ?_
    simp only [List.take_succ_cons, List.take_zero, List.drop_succ_cons, List.drop_zero]
    repeat' first
      | refine k_then ?_
      | refine s_nil ?_
      | refine s_move (by exact rfl) (by exact rfl) ?_
    refine y_yield (K := LL (i + 1)) (by exact rfl) rfl (vs := [.int .i64 ((xs.getD i 0 : Nat) : Int)]) (by exact rfl) (fun W S' hm hs => hy i M W S' hil hM hm hs) fun M' hM' => ?_
    refine y_rest (by exact rfl) ?_
    repeat' first
      | refine k_then ?_
      | refine c_region ?_
      | refine s_nil ?_
      | refine s_move (by exact rfl) (by exact rfl) ?_
      | refine s_add (by exact rfl) (by exact rfl) (by exact rfl) (by omega) ?_
      | refine s_not (by exact rfl) (by exact rfl) ?_
      | refine c_skip ?_
      | refine k_blk ?_
      | refine c_cond_f (by exact rfl) ?_
    refine c_round (i + 1, M') (List.replicate M'.length 0) (pick_id M') ⟨rfl, rfl, rfl, rfl, trivial⟩ ⟨by dsimp only; omega, hM'⟩ (by dsimp only; omega)
  · repeat' first
      | refine k_then ?_
      | refine c_seq ?_
      | refine c_region ?_
      | refine s_nil ?_
      | refine s_lss (by exact rfl) (by exact rfl) (by exact rfl) ?_
      | refine c_exit ?_
      | refine k_then_exit ?_
      | refine k_blk_eq ?_
      | (refine c_cond_p (by exact rfl) (fun h => ?_) (fun h => ?_) <;> try (exfalso; omega))
    obtain rfl : i = xs.length := by omega
    refine ret0 (List.replicate M.length 0) rfl (pick_id M) hM
theorem appendSeq_ok (it : FuncId) (caps : List Value) (xs : List Nat) (w : World) [FnTy Try.prog it] (hN : xs.length ≤ 1048576)
    (hit : ∀ w' S' Sf, Mod w No w' Sf → (∀ k, S' k → Sf k) → IterOK Try.prog it caps xs.length (fun i => [.int .i64 ((xs.getD i 0 : Nat) : Int)]) w' S') :
    Calls Try.prog 108 #[.slice none 0 0, .func (.func it) #[] caps.toArray] w (Post w No fun r L' => L' = [rowHP r 3 1 xs.length (nV xs)]) := by
  refine enterM0 (vs := [_, _]) Try.func108 rfl Try.ntmps108 rfl ?_
  generalize hrest : Code.rangeFunc _ _ _ _ = crange
  repeat' first
    | refine k_then ?_
    | refine c_seq ?_
    | refine c_region ?_
    | refine s_nil ?_
    | refine s_move (by exact rfl) (by exact rfl) ?_
    | refine s_assign (by exact rfl) (by exact rfl) ?_
    | refine o_box (by exact rfl) (by exact rfl) (fun b => ?_)
    | refine c_block ?_
  subst hrest
  refine c_nil 3 1 ?_
  refine c_range (ps := [7]) it caps _ [] xs.length (fun i => [.int .i64 ((xs.getD i 0 : Nat) : Int)]) (fun i M => i ≤ xs.length ∧ ∃ vi, M = [rowHP vi 3 1 i (nV (xs.take i)), boxHP b 27 [vi]]) (List.append_nil _).symm (by exact rfl) (by exact rfl) (fun _ => rfl) (fun w' S' M h => by
    obtain ⟨Sf, hm, hS⟩ := h.old
    exact hit w' S' Sf hm hS) ⟨Nat.zero_le _, .slice none 0 0, rfl⟩ ?_ ?_
  · rintro i _ _ W S' l D r m hi ⟨_, vi, rfl⟩ rfl hlent hst
    obtain ⟨x, hx⟩ : ∃ x, xs[i]? = some x := ⟨_, List.getElem?_eq_getElem hi⟩
    have hg : xs.getD i 0 = x := by rw [List.getD_eq_getElem?_getD, hx]; rfl
    have htk : xs.take (i + 1) = xs.take i ++ [x] := by rw [List.take_add_one, hx]; rfl
    rw [hg]
    simp only [List.zip_cons_cons, List.zip_nil_left, List.reverse_cons, List.reverse_nil, List.nil_append, List.cons_append]
    refine x_region (by exact rfl) ?_
    repeat' first
      | refine k_then ?_
      | refine s_nil ?_
      | refine s_assign (by exact rfl) (by exact rfl) ?_
    refine r_begin (j := 0) rfl hst ?_
    refine x_block ?_
    refine x_region (by exact rfl) ?_
    repeat' first
      | refine s_move (by exact rfl) (by exact rfl) ?_
      | refine s_ld_box (by exact rfl) (by exact rfl) (by exact .tail _ (.tail _ (.tail _ (.head _)))) (by exact rfl) ?_
    refine o_mk [.int .i64 (x : Int)] (by exact rfl) (by exact rfl) rfl (by simp [Value.cells]) (by simp) (by simp) fun vt hvt => ?_
    skip
    refine o_append_row (bytes := 8) (i := 3) (by exact rfl) (by exact rfl) (by exact rfl) (by exact rfl) (by exact .head _) (by exact rfl) (by simp [Value.cells, Value.oneCell']) (by omega) fun v3 hv3 => ?_
    skip
    refine o_st_box (i := 4) (by exact rfl) (by exact rfl) (by exact rfl) hv3.one (by simp) ?_
    repeat' first
      | refine s_nil ?_
      | refine k_blk ?_
    refine r_end (j := 1) [1, 1, 1, 1] rfl rfl fun W2 h2 => ⟨rfl, ?_⟩
    obtain ⟨S2, hm2, hl2⟩ := h2
    refine ⟨_, S2, ⟨_, ⟨by omega, v3, rfl⟩, rfl⟩, hm2, ?_⟩
    rw [htk, show nV (xs.take i ++ [x]) = nV (xs.take i) ++ [.int .i64 (x : Int)] by simp [nV]]
    exact hl2
  · rintro _ l D r ⟨_, vi, rfl⟩
    refine know_row (v := vi) (.tail _ (.tail _ (.head _))) fun hvi _ => ?_
    refine m_blk ?_
    refine m_then ?_
    refine m_seq ?_
    refine m_region (by exact rfl) ?_
    repeat' first
      | refine s_nil ?_
      | refine s_assign (by exact rfl) (by exact rfl) ?_
      | refine s_ld_box (by exact rfl) (by exact rfl) (by exact .tail _ (.tail _ (.tail _ (.head _)))) (by exact rfl) ?_
    refine m_then ?_
    refine m_ret ?_
    refine m_end (j := 1) rfl ?_
    refine ret1 [2] rfl rfl rfl ?_
    rw [List.take_length]
theorem Values_ok (v : Value) (w : World) (hv : v.oneCell' = true) : Calls Try.prog 79 #[v] w (Post w No fun r L' => ∃ b, r = .func (.func 100) #[] #[.pointer (some ⟨b, 0, none⟩)] ∧ L' = [boxHP b 27 [v]]) := by
  refine enter0 (vs := [_]) Try.func79 rfl Try.ntmps79 rfl ?_
  repeat' first
    | refine k_then ?_
    | refine c_seq ?_
    | refine c_region ?_
    | refine s_nil ?_
    | refine s_assign (by exact rfl) (by exact rfl) ?_
    | refine o_box (by exact rfl) (by exact rfl) (fun b => ?_)
  refine o_mkf [] [.pointer (some ⟨b, 0, none⟩)] (by exact rfl) (by exact rfl) (by exact rfl) ?_
  repeat' first
    | refine k_then ?_
    | refine s_nil ?_
    | refine s_assign (by exact rfl) (by exact rfl) ?_
    | refine c_ret ?_
  rw [one_cells hv]
  refine ret1 [0] rfl rfl rfl ⟨b, rfl, rfl⟩
theorem Collect_ok (it : FuncId) (caps : List Value) (xs : List Nat) (w : World) [FnTy Try.prog it] (hN : xs.length ≤ 1048576)
    (hit : ∀ w' S' Sf, Mod w No w' Sf → (∀ k, S' k → Sf k) → IterOK Try.prog it caps xs.length (fun i => [.int .i64 ((xs.getD i 0 : Nat) : Int)]) w' S') :
    Calls Try.prog 99 #[.func (.func it) #[] caps.toArray] w (Post w No fun r L' => L' = [rowHP r 3 1 xs.length (nV xs)]) := by
  refine enter0 (vs := [_]) Try.func99 rfl Try.ntmps99 rfl ?_
  repeat' first
    | refine k_then ?_
    | refine c_seq ?_
    | refine c_region ?_
    | refine s_nil ?_
    | refine s_move (by exact rfl) (by exact rfl) ?_
    | refine s_assign (by exact rfl) (by exact rfl) ?_
  refine o_call (by exact rfl) (by exact rfl) (fun w1 h => appendSeq_ok it caps xs w1 hN fun w' S' Sf hm hS => h.mod0.elim fun S1 hm1 => hit w' S' _ (mod_trans0 hm1 hm) fun k hk => .inr (hS k hk)) ?_
  rintro vo _ rfl
  repeat' first
    | refine k_then ?_
    | refine s_nil ?_
    | refine s_assign (by exact rfl) (by exact rfl) ?_
    | refine c_ret ?_
  refine ret1 [0] rfl rfl rfl rfl
theorem Sorted_ok (it : FuncId) (caps : List Value) (xs : List Nat) (w : World) [FnTy Try.prog it] (hN : xs.length ≤ 1048576)
    (hit : ∀ w' S' Sf, Mod w No w' Sf → (∀ k, S' k → Sf k) → IterOK Try.prog it caps xs.length (fun i => [.int .i64 ((xs.getD i 0 : Nat) : Int)]) w' S') :
    Calls Try.prog 78 #[.func (.func it) #[] caps.toArray] w (Post w No fun r L' => L' = [rowHP r 3 1 xs.length (nV (sortN xs))]) := by
  refine enter0 (vs := [_]) Try.func78 rfl Try.ntmps78 rfl ?_
  repeat' first
    | refine k_then ?_
    | refine c_seq ?_
    | refine c_region ?_
    | refine s_nil ?_
    | refine s_move (by exact rfl) (by exact rfl) ?_
    | refine s_assign (by exact rfl) (by exact rfl) ?_
  refine o_call (by exact rfl) (by exact rfl) (fun w1 h => Collect_ok it caps xs w1 hN fun w' S' Sf hm hS => h.mod0.elim fun S1 hm1 => hit w' S' _ (mod_trans0 hm1 hm) fun k hk => .inr (hS k hk)) ?_
  rintro vo _ rfl
  repeat' first
    | refine k_then ?_
    | refine c_seq ?_
    | refine c_region ?_
    | refine s_nil ?_
    | refine s_move (by exact rfl) (by exact rfl) ?_
    | refine s_assign (by exact rfl) (by exact rfl) ?_
  refine s_lend [rowHP vo 3 1 xs.length (nV xs)] _ (by exact rfl) (by exact rfl) (by exact rfl) (fun w S h => nsort_row (sats_mem h.own (.head _)) (by omega)) ?_
  rintro _ _ ⟨rfl, rfl⟩
  repeat' first
    | refine k_then ?_
    | refine c_seq ?_
    | refine c_region ?_
    | refine s_nil ?_
    | refine s_move (by exact rfl) (by exact rfl) ?_
    | refine s_assign (by exact rfl) (by exact rfl) ?_
    | refine c_ret ?_
  refine ret1 [0] rfl rfl rfl rfl
end Go.Proofs.Ytkekpgkacjpjnaa
end
section
set_option linter.unusedVariables false
namespace Fil
theorem sortN_asc {l : List Nat} (h : l.Nodup) : Asc (sortN l) := by
  have h1 := sortN_sorted l
  have h2 : (sortN l).Pairwise fun a b => a ≠ b := (sortN_perm l).nodup_iff.2 h
  exact (h1.and h2).imp fun h => by omega
theorem Asc.nodup {l : List Nat} (h : Asc l) : l.Nodup := h.imp fun h => by omega
/-- a vertex among its neighbours -/
def allV (nr : List Nat) (v : Nat) : List Nat := nr.take (posL nr v) ++ [v] ++ nr.drop (posL nr v)
theorem allV_sort {nr : List Nat} {v : Nat} (h : Asc nr) : sortN (nr ++ [v]) = allV nr v := (putL_eq (h.imp fun h => by omega)).symm
theorem allV_asc {nr : List Nat} {v : Nat} (h : Asc nr) (hv : v ∉ nr) : Asc (allV nr v) := by
  rw [← allV_sort h]
  exact sortN_asc (List.nodup_append.2 ⟨h.nodup, by simp, fun a ha b hb e => by
    obtain rfl : b = v := by simpa using hb
    exact hv (e ▸ ha)⟩)
theorem allV_length (nr : List Nat) (v : Nat) : (allV nr v).length = nr.length + 1 := putL_length nr v
theorem mem_allV {nr : List Nat} {v u : Nat} : u ∈ allV nr v ↔ u ∈ nr ∨ u = v := mem_putL
theorem posB_all {nr : List Nat} {v : Nat} (h : Asc nr) (hv : v ∉ nr) : posB (allV nr v) v = posL nr v := by
  have ha := allV_asc h hv
  have hple := posL_le nr v
  have hat : (allV nr v)[posL nr v]? = some v := by
    rw [allV, List.append_assoc, List.getElem?_append_right (by rw [List.length_take]; omega), List.length_take, Nat.min_eq_left hple, Nat.sub_self]
    rfl
  refine posB_eq (by rw [allV_length]; omega) (fun j y hj hy => ha.get hy hat hj) fun y hy => ?_
  rw [hat] at hy
  obtain rfl : v = y := by simpa using hy
  exact Nat.le_refl _
/-- a choice, and v too -/
def S1 (v : Nat) (C : Nat → Bool) (u : Nat) : Bool := C u || decide (u = v)
theorem encL_all0 {nr : List Nat} {v : Nat} {C : Nat → Bool} (hC : C v = false) : encL (allV nr v) C = encL (nr.take (posL nr v)) C + 2 ^ posL nr v * (2 * encL (nr.drop (posL nr v)) C) := by
  have hple := posL_le nr v
  rw [allV, List.append_assoc, encL_append, List.length_take, Nat.min_eq_left hple]
  simp [encL, hC]
theorem encL_all1 {nr : List Nat} {v : Nat} {C : Nat → Bool} (hv : v ∉ nr) : encL (allV nr v) (S1 v C) = encL (nr.take (posL nr v)) C + 2 ^ posL nr v * (1 + 2 * encL (nr.drop (posL nr v)) C) := by
  have hple := posL_le nr v
  rw [allV, List.append_assoc, encL_append, List.length_take, Nat.min_eq_left hple]
  have h1 : encL (nr.take (posL nr v)) (S1 v C) = encL (nr.take (posL nr v)) C := encL_congr fun u hu => by
    have : u ≠ v := fun e => hv (e ▸ List.mem_of_mem_take hu)
    simp [S1, this]
  have h2 : encL (nr.drop (posL nr v)) (S1 v C) = encL (nr.drop (posL nr v)) C := encL_congr fun u hu => by
    have : u ≠ v := fun e => hv (e ▸ List.mem_of_mem_drop hu)
    simp [S1, this]
  rw [h1]
  simp only [List.singleton_append, encL, h2]
  simp [S1]
theorem encL_split (nr : List Nat) (p : Nat) (C : Nat → Bool) (hp : p ≤ nr.length) : encL nr C = encL (nr.take p) C + 2 ^ p * encL (nr.drop p) C := by
  have h := encL_append (nr.take p) (nr.drop p) C
  rw [List.take_append_drop, List.length_take, Nat.min_eq_left hp] at h
  exact h
theorem or_low {lo p e : Nat} (h : lo < 2 ^ p) : lo ||| 2 ^ p * (2 * e) = lo + 2 ^ p * (2 * e) := by
  rw [Nat.or_comm, ← Nat.two_pow_add_eq_or_of_lt h, Nat.add_comm]
theorem or_bit {lo p e : Nat} (h : lo < 2 ^ p) : (lo + 2 ^ p * (2 * e)) ||| 2 ^ p = lo + 2 ^ p * (1 + 2 * e) := by
  have h1 : 2 * e ||| 1 = 2 * e + 1 := by
    have := Nat.two_pow_add_eq_or_of_lt (i := 1) (b := 1) (by decide) e
    simpa using this.symm
  have h2 : 2 ^ p * (2 * e) ||| 2 ^ p = 2 ^ p * (2 * e + 1) := by
    have h3 := Nat.shiftLeft_or_distrib (i := p) (a := 2 * e) (b := 1)
    simp only [Nat.shiftLeft_eq] at h3
    rw [h1] at h3
    rw [Nat.mul_comm (2 ^ p) (2 * e), Nat.mul_comm (2 ^ p) (2 * e + 1), h3, Nat.one_mul]
  have h4 := Nat.two_pow_add_eq_or_of_lt h (2 * e)
  have h5 := Nat.two_pow_add_eq_or_of_lt h (2 * e + 1)
  rw [Nat.add_comm, h4, Nat.or_assoc, Nat.or_comm lo, ← Nat.or_assoc, h2, ← h5, Nat.add_comm, Nat.add_comm (2 * e)]
def mineT (v : Nat) (tabs : List Tab) : List Tab := tabs.filter fun t => decide (v ∈ t.1)
def restT (v : Nat) (tabs : List Tab) : List Tab := tabs.filter fun t => !decide (v ∈ t.1)
def okV (G : List (List Nat)) (v : Nat) (nr : List Nat) (C : Nat → Bool) : Bool := decide (∀ u ∈ nr, C u = true → u ∉ G.getD v [])
def inV (G : List (List Nat)) (v : Nat) (nr : List Nat) (tabs : List Tab) (C : Nat → Bool) : Bool := okV G v nr C && decide (sumT (mineT v tabs) C < sumT (mineT v tabs) (S1 v C) + 1)
def newV (G : List (List Nat)) (v : Nat) (nr : List Nat) (tabs : List Tab) (C : Nat → Bool) : Nat := if inV G v nr tabs C then sumT (mineT v tabs) (S1 v C) + 1 else sumT (mineT v tabs) C
def resC (nr : List Nat) (C : Nat → Bool) (u : Nat) : Bool := decide (u ∈ nr) && C u
theorem resC_dec (nr : List Nat) (c : Nat) : resC nr (decL nr c) = decL nr c := by
  funext u
  simp only [resC, decL]
  cases decide (u ∈ nr) <;> simp
def newT (G : List (List Nat)) (v : Nat) (nr : List Nat) (tabs : List Tab) : Tab := (nr, fun C => newV G v nr tabs (resC nr C))
theorem newT_ok (G : List (List Nat)) (v : Nat) (nr : List Nat) (tabs : List Tab) : TabOK (newT G v nr tabs) := fun C C' h => by
  show newV G v nr tabs (resC nr C) = newV G v nr tabs (resC nr C')
  have : resC nr C = resC nr C' := by
    funext u
    by_cases hu : u ∈ nr
    · simp [resC, h u hu]
    · simp [resC, hu]
  rw [this]
theorem bestL_new (G : List (List Nat)) (v : Nat) (nr : List Nat) (tabs : List Tab) : bestL (newT G v nr tabs) = (List.range (2 ^ nr.length)).map fun c => newV G v nr tabs (decL nr c) := by
  simp only [bestL, newT, resC_dec]
def inL (G : List (List Nat)) (v : Nat) (nr : List Nat) (tabs : List Tab) : List Bool := (List.range (2 ^ nr.length)).map fun c => inV G v nr tabs (decL nr c)
theorem sumT_filter (p : Tab → Bool) (l : List Tab) (C : Nat → Bool) : sumT (l.filter p) C ≤ sumT l C := by
  induction l with
  | nil => simp [sumT]
  | cons t l ih =>
    rw [List.filter_cons]
    split
    · simp only [sumT, List.map_cons, List.sum_cons] at ih ⊢; omega
    · simp only [sumT, List.map_cons, List.sum_cons] at ih ⊢; omega
theorem sumT_split (v : Nat) (l : List Tab) (C : Nat → Bool) : sumT l C = sumT (restT v l) C + sumT (mineT v l) C := by
  induction l with
  | nil => simp [sumT, restT, mineT]
  | cons t l ih =>
    simp only [restT, mineT, sumT, List.filter_cons, List.map_cons, List.sum_cons] at ih ⊢
    by_cases h : v ∈ t.1
    · simp only [h, decide_true, Bool.not_true, if_true, List.map_cons, List.sum_cons, Bool.false_eq_true, if_false]; omega
    · simp only [h, decide_false, Bool.not_false, if_true, List.map_cons, List.sum_cons, Bool.false_eq_true, if_false]; omega
/-- as far as some, the others nothing -/
def upTo {α : Type} (N c : Nat) (f : Nat → α) (z : α) : List α := (List.range N).map fun j => if j < c then f j else z
theorem upTo_zero {α : Type} (N : Nat) (f : Nat → α) (z : α) : upTo N 0 f z = List.replicate N z := by
  simp only [upTo, Nat.not_lt_zero, if_false]
  rw [List.eq_replicate_iff]
  exact ⟨by simp, fun x hx => by obtain ⟨_, _, rfl⟩ := List.mem_map.1 hx; rfl⟩
theorem upTo_all {α : Type} (N : Nat) (f : Nat → α) (z : α) : upTo N N f z = (List.range N).map f :=
  List.map_congr_left fun j hj => if_pos (by simpa using hj)
theorem upTo_length {α : Type} (N c : Nat) (f : Nat → α) (z : α) : (upTo N c f z).length = N := by simp [upTo]
theorem upTo_set {α : Type} {N c : Nat} (hc : c < N) (f : Nat → α) (z : α) : (upTo N c f z).set c (f c) = upTo N (c + 1) f z := by
  apply List.ext_getElem?
  intro k
  simp only [upTo, List.getElem?_set, List.length_map, List.length_range, List.getElem?_map]
  by_cases e : c = k
  · subst e; simp [hc]
  · rw [if_neg e]
    by_cases hk : k < N
    · rw [List.getElem?_range hk, Option.map_some, Option.map_some]
      by_cases h1 : k < c
      · rw [if_pos h1, if_pos (by omega)]
      · rw [if_neg h1, if_neg (by omega)]
    · rw [List.getElem?_eq_none (by simpa using hk)]; rfl
theorem upTo_same {α : Type} {N c : Nat} (f : Nat → α) (z : α) (h : f c = z) : upTo N (c + 1) f z = upTo N c f z := by
  refine List.map_congr_left fun j _ => ?_
  by_cases e : j = c
  · subst e; rw [if_pos (by omega), if_neg (by omega), h]
  · by_cases h1 : j < c
    · rw [if_pos h1, if_pos (by omega)]
    · rw [if_neg h1, if_neg (by omega)]
end Fil
end
section
set_option linter.unusedVariables false
namespace Go.Sl
open Go Go.RowKit
section
variable {P : Program} {w0 : World} {S0 : FS} {n : Nat} {F : List (Nat × Value)} {L Lk : List HP} {ops : Array Oper} {Q : Exit → Act → World → Prop} {plan : List PI}
theorem RP.weaken {G : List (Nat × Value)} {M : List HP} (is : List Nat) (hL : pick L is = some M) (hF : covers F G) (h : RP P w0 S0 n ops Q Lk plan G M) : RP P w0 S0 n ops Q Lk plan F L := Reach.weaken is hL hF h
/-- orders that come to one state -/
theorem p_join {X : Type} (rest : List PI) (FX : X → List (Nat × Value)) (LX : X → List HP) (h : (∀ x, RP P w0 S0 n ops Q Lk rest (FX x) (LX x)) → RP P w0 S0 n ops Q Lk plan F L) (hk : ∀ x, RP P w0 S0 n ops Q Lk rest (FX x) (LX x)) : RP P w0 S0 n ops Q Lk plan F L := h hk
/-- ways that come to one state -/
theorem c_join {X : Type} {c : Code} {K : Act → World → Prop} (FX : X → List (Nat × Value)) (LX : X → List HP) (h : ∀ K : Act → World → Prop, (∀ x, Reach w0 S0 n (FX x) (LX x) K) → Reach w0 S0 n F L (c.wp P (Exit.then K Q))) (hk : ∀ x, Reach w0 S0 n (FX x) (LX x) K) : Reach w0 S0 n F L (c.wp P (Exit.then K Q)) := h K hk
theorem j_end {X : Type} {K : Act → World → Prop} {FX : X → List (Nat × Value)} {LX : X → List HP} (hk : ∀ x, Reach w0 S0 n (FX x) (LX x) K) (x : X) (is : List Nat) (hL : pick L is = some (LX x)) (hF : covers F (FX x)) : Reach w0 S0 n F L K := Reach.weaken is hL hF (hk x)
theorem pj_end {X : Type} {FX : X → List (Nat × Value)} {LX : X → List HP} (hk : ∀ x, RP P w0 S0 n ops Q Lk plan (FX x) (LX x)) (x : X) (is : List Nat) (hL : pick L is = some (LX x)) (hF : covers F (FX x)) : RP P w0 S0 n ops Q Lk plan F L := Reach.weaken is hL hF (hk x)
/-- what is appended is read: of an entry, or of what was lent -/
theorem p_append_rd {i d : Nat} {rest : List PI} {ty : TypeId} {ps : String} {af : Array Edge} {x y : Operand} {t e : TypeId} {z s u : Value} {sz bytes m c j : Nat} {ys news : List Value} [T : SlTy P t e z sz bytes] (hrd : ∀ w, St w0 S0 L w → RdV w u news) (ho : ops[i]? = some ⟨some d, .call { callee := .builtin .append, args := #[x, y], argTypes := #[t, t] }, ty, ps, af, none⟩) (hn : Nat.blt d n = true) (hx : ev F x = some s) (hA : L[j]? = some (rowHP s e sz m ys)) (hy : ev F y = some u) (hu : Shp u c) (hl : news.length = c * sz) (h1 : ∀ u ∈ news, u.oneCell' = true) (hb : (m + c) * bytes ≤ 140737488355328) (hL : ∀ w v, St w0 S0 (L.set j (rowHP v e sz (m + c) (ys ++ news))) w → St w0 S0 Lk w)
    (h : ∀ v, Shp v (m + c) → RP P w0 S0 n ops Q Lk rest ((d, v) :: F) (L.set j (rowHP v e sz (m + c) (ys ++ news)))) : RP P w0 S0 n ops Q Lk (.mk i false :: rest) F L :=
  p_l ho rfl fun R hR => l_append_of hrd rfl rfl hn hx hy hA hu hl h1 hb (fun v hv => hR _ _ (fun w => hL w v) (h v hv))
theorem rd_cut {v : Value} {e : TypeId} {sz m a b : Nat} {ys : List Value} (hL : rowHP v e sz m ys ∈ L) (ha : a ≤ b) (hb : b ≤ m) : ∀ w, St w0 S0 L w → RdV w (cutV v sz a b) ((ys.drop (a * sz)).take ((b - a) * sz)) := fun w h =>
  (h.mem hL).elim fun _ hs => (rowHP_rd hs).cut (rowHP_shp hs) ha hb
theorem p_beginB [T : PO Q] {id : Nat} {l : List Oper} {A B : HP} (plan : List PI) (hm : (P.follows .mixedOrders && Region.noSelect l.toArray && planOk l.toArray (Array.replicate l.toArray.size false) plan && (planLen plan == l.toArray.size)) = true)
    (h : RP P w0 S0 n l.toArray Q L plan F (A :: B :: L)) : Reach w0 S0 n F (A :: B :: L) ((Code.region id l.toArray true).wp P Q) := p_begin plan L hm h
end
end Go.Sl
end
section
namespace Go.Sl
open Go Go.RowKit Fil
def mineV (v : Nat) (tv : List (Value × Value)) (tabs : List Tab) : List (Value × Value) := ((tv.zip tabs).filter fun p => decide (v ∈ p.2.1)).map Prod.fst
def restV (v : Nat) (tv : List (Value × Value)) (tabs : List Tab) : List (Value × Value) := ((tv.zip tabs).filter fun p => !decide (v ∈ p.2.1)).map Prod.fst
theorem zip_filter {α β : Type} (p : β → Bool) : ∀ (tv : List α) (tabs : List β), tv.length = tabs.length → ((tv.zip tabs).filter fun q => p q.2).map Prod.snd = tabs.filter p
  | [], [], _ => rfl
  | a :: tv, t :: tabs, h => by
    have ih := zip_filter p tv tabs (by simpa using h)
    simp only [List.zip_cons_cons, List.filter_cons]
    split
    · rw [List.map_cons, ih]
    · exact ih
theorem bVz (n : Nat) : (madeCells (Value.bool false).cells (n * 1)).toList = bV (List.replicate n false) := by rw [made1 rfl]; simp [bV]
theorem mineV_length {v : Nat} {tv : List (Value × Value)} {tabs : List Tab} (h : tv.length = tabs.length) : (mineV v tv tabs).length = (mineT v tabs).length := by
  have := congrArg List.length (zip_filter (fun t : Tab => decide (v ∈ t.1)) tv tabs h)
  simpa [mineV, mineT] using this
theorem restV_length {v : Nat} {tv : List (Value × Value)} {tabs : List Tab} (h : tv.length = tabs.length) : (restV v tv tabs).length = (restT v tabs).length := by
  have := congrArg List.length (zip_filter (fun t : Tab => !decide (v ∈ t.1)) tv tabs h)
  simpa [restV, restT] using this
theorem tabRO_filter {w : World} {S : FS} {tv : List (Value × Value)} {tabs : List Tab} (p : Tab → Bool) (h : TabRO w S tv tabs) : TabRO w S (((tv.zip tabs).filter fun q => p q.2).map Prod.fst) (tabs.filter p) := by
  have hz := zip_filter p tv tabs h.len
  refine ⟨?_, ?_⟩
  · have := congrArg List.length hz
    simpa using this
  intro i hd t h1 h2
  rw [← hz] at h2
  rw [List.getElem?_map, Option.map_eq_some_iff] at h1 h2
  obtain ⟨q1, e1, rfl⟩ := h1
  obtain ⟨q2, e2, rfl⟩ := h2
  rw [e1] at e2
  obtain rfl : q1 = q2 := Option.some.inj e2
  have hm := List.mem_of_getElem? e1
  obtain ⟨hm, _⟩ := List.mem_filter.1 hm
  obtain ⟨k, hk⟩ := List.getElem?_of_mem hm
  rw [List.getElem?_zip_eq_some] at hk
  exact h.tab k _ _ hk.1 hk.2
theorem tabRO_mine {w : World} {S : FS} {v : Nat} {tv : List (Value × Value)} {tabs : List Tab} (h : TabRO w S tv tabs) : TabRO w S (mineV v tv tabs) (mineT v tabs) := tabRO_filter (fun t : Tab => decide (v ∈ t.1)) h
theorem mineV_take {v k : Nat} {tv : List (Value × Value)} {tabs : List Tab} {h : Value × Value} {t : Tab} (h1 : tv[k]? = some h) (h2 : tabs[k]? = some t) : mineV v (tv.take (k + 1)) (tabs.take (k + 1)) = mineV v (tv.take k) (tabs.take k) ++ (if v ∈ t.1 then [h] else []) := by
  have e1 := List.length_take (i := k) (l := tv)
  have e2 := List.length_take (i := k) (l := tabs)
  have l1 := (List.getElem?_eq_some_iff.1 h1).1
  have l2 := (List.getElem?_eq_some_iff.1 h2).1
  rw [List.take_add_one, List.take_add_one, h1, h2]
  simp only [mineV, Option.toList_some]
  rw [List.zip_append (by omega), List.filter_append, List.map_append]
  by_cases hv : v ∈ t.1 <;> simp [hv]
theorem restV_take {v k : Nat} {tv : List (Value × Value)} {tabs : List Tab} {h : Value × Value} {t : Tab} (h1 : tv[k]? = some h) (h2 : tabs[k]? = some t) : restV v (tv.take (k + 1)) (tabs.take (k + 1)) = restV v (tv.take k) (tabs.take k) ++ (if v ∈ t.1 then [] else [h]) := by
  have e1 := List.length_take (i := k) (l := tv)
  have e2 := List.length_take (i := k) (l := tabs)
  have l1 := (List.getElem?_eq_some_iff.1 h1).1
  have l2 := (List.getElem?_eq_some_iff.1 h2).1
  rw [List.take_add_one, List.take_add_one, h1, h2]
  simp only [restV, Option.toList_some]
  rw [List.zip_append (by omega), List.filter_append, List.map_append]
  by_cases hv : v ∈ t.1 <;> simp [hv]
theorem mineV_le {v : Nat} {tv : List (Value × Value)} {tabs : List Tab} : (mineV v tv tabs).length ≤ tv.length := by
  simp only [mineV, List.length_map]
  exact Nat.le_trans (List.length_filter_le _ _) (by rw [List.length_zip]; omega)
theorem restV_le {v : Nat} {tv : List (Value × Value)} {tabs : List Tab} : (restV v tv tabs).length ≤ tv.length := by
  simp only [restV, List.length_map]
  exact Nat.le_trans (List.length_filter_le _ _) (by rw [List.length_zip]; omega)
end Go.Sl
namespace Go.Proofs.Ytkekpgkacjpjnaa
open Go.RowKit Go.Sl Fil
set_option maxRecDepth 100000
set_option maxHeartbeats 8000000
set_option linter.unusedVariables false
set_option linter.unusedSimpArgs false
attribute [local irreducible] Code.wp wpList bodyPost wpQuiet Exit.then Exit.inBlock Post wpAnyH wpOp
theorem eliminate_ok (bs : Nat) (vn vt vd vx : Value) (hn : List Value) (near : List (List Nat)) (v : Nat) (nr : List Nat) (tv : List (Value × Value)) (tabs : List Tab) (fd : List Value) (w : World) (S : FS)
    (hsat : sats [boxHP bs 100 [vn, vt, vd], rowHP vt 111 2 tv.length (tabV tv), rowHP vd 90 1 fd.length fd] S w)
    (hx : Shp vx nr.length) (hrx : RO w S vx (nV nr)) (hrn : ROs w S vn hn near) (ht : TabRO w S tv tabs) (hv : v < near.length) (hN : near.length ≤ 1048576) (hasc : Asc nr) (hvn : v ∉ nr) (h39 : nr.length ≤ 39)
    (hok : ∀ t ∈ tabs, TabOK t ∧ (v ∈ t.1 → ∀ u ∈ t.1, u ∈ allV nr v) ∧ t.1.length ≤ 40) (hsum : ∀ C, sumT tabs C ≤ 1000000) (hlt : tv.length ≤ 1048576) (hlf : fd.length ≤ 1048576) :
    Calls Try.prog 71 #[.pointer (some ⟨bs, 0, none⟩), .agg #[.int .i64 (v : Int), vx]] w (Post w S fun r L' => ∃ (vt' vd' vb vi : Value) (bi : Nat), L' = [boxHP bs 100 [vn, vt', vd'], rowHP vt' 111 2 (restV v tv tabs ++ [(vx, vb)]).length (tabV (restV v tv tabs ++ [(vx, vb)])), rowHP vd' 90 1 (fd.length + 1) (fd ++ [.func (.func 84) #[] #[.pointer (some ⟨bi, 0, none⟩)]]), rowHP vb 3 1 (2 ^ nr.length) (nV (bestL (newT near v nr tabs))), boxHP bi 35 [vi], rowHP vi 4 1 (2 ^ nr.length) (bV (inL near v nr tabs))]) := by
  have hlen := ht.len
  refine enter (vs := [_, _]) Try.func71 rfl Try.ntmps71 rfl hsat ?_
  refine know_row (v := vt) (.tail _ (.head _)) fun hvt _ => ?_
  repeat' first
    | refine k_then ?_
    | refine c_seq ?_
    | refine c_region ?_
    | refine s_nil ?_
    | refine s_move (by exact rfl) (by exact rfl) ?_
    | refine s_assign (by exact rfl) (by exact rfl) ?_
    | refine s_fa (by exact rfl) (by exact rfl) ?_
    | refine s_ld_box (by exact rfl) (by exact rfl) (by exact .tail _ (.head _)) (by exact rfl) ?_
    | refine s_len (by exact rfl) (by exact rfl) (by assumption) ?_
    | refine o_box (by exact rfl) (by exact rfl) (fun b => ?_)
    | refine c_block ?_
    | refine s_nilc (by exact rfl) (by exact rfl) ?_
  revert b; intro b3
  refine c_nil 111 2 ?_
  refine c_nil 111 2 ?_
  refine c_loop (fun x : Nat × Value × Value => x.1 ≤ tv.length) (fun x => [(0, .pointer (some ⟨bs, 0, none⟩)), (3, .pointer (some ⟨b3, 0, none⟩)), (4, x.2.1), (5, x.2.2), (20, vt), (21, .int .i64 (tv.length : Int)), (22, .int .i64 (x.1 : Int))])
    (fun x => [rowHP x.2.1 111 2 (mineV v (tv.take x.1) (tabs.take x.1)).length (tabV (mineV v (tv.take x.1) (tabs.take x.1))), rowHP x.2.2 111 2 (restV v (tv.take x.1) (tabs.take x.1)).length (tabV (restV v (tv.take x.1) (tabs.take x.1))), boxHP b3 74 [.int .i64 (v : Int), vx], boxHP bs 100 [vn, vt, vd], rowHP vt 111 2 tv.length (tabV tv), rowHP vd 90 1 fd.length fd]) (fun x => tv.length - x.1) (0, .slice none 0 0, .slice none 0 0) [0, 0, 0, 0, 0, 0] (Nat.zero_le _) (by exact rfl) ⟨rfl, rfl, rfl, rfl, rfl, rfl, rfl, trivial⟩ ?_
  rintro ⟨k, vm, vr⟩ hk
  dsimp only at hk ⊢
  by_cases hkl : k < tv.length
  · obtain ⟨t, htk⟩ : ∃ t, tabs[k]? = some t := ⟨_, List.getElem?_eq_getElem (by omega)⟩
    obtain ⟨hd, hhk⟩ : ∃ hd, tv[k]? = some hd := ⟨_, List.getElem?_eq_getElem (by omega)⟩
    obtain ⟨q1, q2, q3, q4⟩ := ht.tab k hd t hhk htk
    have hE := tabV_get hhk
    have hml : (mineV v (tv.take k) (tabs.take k)).length ≤ k := Nat.le_trans mineV_le (by rw [List.length_take]; omega)
    have hrl : (restV v (tv.take k) (tabs.take k)).length ≤ k := Nat.le_trans restV_le (by rw [List.length_take]; omega)
    repeat' first
      | refine k_then ?_
      | refine c_seq ?_
      | refine c_region ?_
      | refine s_nil ?_
      | refine s_lss (by exact rfl) (by exact rfl) (by exact rfl) ?_
      | refine s_idx (by exact rfl) (by exact rfl) (by exact rfl) (by assumption) (by first | assumption | omega) ?_
      | refine s_ldk_row (by exact rfl) (by exact rfl) (by exact .tail _ (.tail _ (.tail _ (.tail _ (.head _))))) (by decide) (by assumption) (by exact rfl) ?_
      | refine o_alloc (by exact rfl) (fun b => ?_)
      | refine c_block ?_
      | refine c_skip ?_
      | (refine c_cond_p (by exact rfl) (fun h => ?_) (fun h => ?_) <;> try (exfalso; omega))
    refine o_stk_box (i := 0) (us := [hd.1, hd.2]) (by exact rfl) (by exact rfl) (by exact rfl) (by exact rfl) (by exact rfl) (by
      intro u hu
      simp only [List.mem_cons, List.not_mem_nil, or_false] at hu
      rcases hu with rfl | rfl
      · exact q1.one
      · exact q3.one) (by simp [Value.cells]) ?_
    repeat' first
      | refine k_then ?_
      | refine c_seq ?_
      | refine c_region ?_
      | refine s_nil ?_
      | refine s_fa (by exact rfl) (by exact rfl) ?_
      | refine s_ld_box (by exact rfl) (by exact rfl) (by first | exact .head _ | exact .tail _ (.tail _ (.tail _ (.head _)))) (by exact rfl) ?_
    refine s_call (by exact rfl) (by exact rfl) (fun w h => Contains_ok hd.1 t.1 v w q1 (ro_old h q2)) ?_
    by_cases hvt1 : v ∈ t.1
    · have hm1 := mineV_take (v := v) hhk htk
      have hr1 := restV_take (v := v) hhk htk
      rw [if_pos hvt1] at hm1 hr1
      rw [decide_eq_true hvt1]
      repeat' first
        | refine k_then ?_
        | refine c_region ?_
        | refine s_nil ?_
        | refine s_move (by exact rfl) (by exact rfl) ?_
        | refine s_ldk_box (by exact rfl) (by exact rfl) (by exact .head _) (by exact rfl) (by exact rfl) ?_
        | refine c_cond_t (by exact rfl) ?_
      refine o_mk [.agg #[hd.1, hd.2]] (by exact rfl) (by exact rfl) rfl ?_ ?_ (by simp) fun va hva => ?_
      · simp [Value.cells]
      · simp
      skip
      refine o_append_row (i := 2) (by exact rfl) (by exact rfl) (by exact rfl) (by exact rfl) (by exact .head _) (by exact rfl) (by
        intro u hu
        simp only [List.flatMap_cons, List.flatMap_nil, List.append_nil, Value.cells, List.mem_cons, List.not_mem_nil, or_false] at hu
        rcases hu with rfl | rfl
        · exact q1.one
        · exact q3.one) ?_ fun vo2 hvo2 => ?_
      · omega
      repeat' first
        | refine k_then ?_
        | refine c_region ?_
        | refine s_nil ?_
        | refine s_move (by exact rfl) (by exact rfl) ?_
        | refine s_assign (by exact rfl) (by exact rfl) ?_
        | refine s_add (by exact rfl) (by exact rfl) (by exact rfl) (by omega) ?_
        | refine k_blk ?_
      refine c_round (k + 1, vo2, vr) [2, 2, 2, 2, 2, 2] ?_ ⟨rfl, rfl, rfl, rfl, rfl, rfl, rfl, trivial⟩ (by dsimp only; omega) (by dsimp only; omega)
      dsimp only
      rw [hm1, hr1, List.append_nil, tabV_snoc, List.length_append, List.length_singleton]
      rfl
    · have hm1 := mineV_take (v := v) hhk htk
      have hr1 := restV_take (v := v) hhk htk
      rw [if_neg hvt1] at hm1 hr1
      rw [decide_eq_false hvt1]
      repeat' first
        | refine k_then ?_
        | refine c_region ?_
        | refine s_nil ?_
        | refine s_move (by exact rfl) (by exact rfl) ?_
        | refine s_ldk_box (by exact rfl) (by exact rfl) (by exact .head _) (by exact rfl) (by exact rfl) ?_
        | refine c_cond_f (by exact rfl) ?_
      refine o_mk [.agg #[hd.1, hd.2]] (by exact rfl) (by exact rfl) rfl ?_ ?_ (by simp) fun va hva => ?_
      · simp [Value.cells]
      · simp
      skip
      refine o_append_row (i := 3) (by exact rfl) (by exact rfl) (by exact rfl) (by exact rfl) (by exact .head _) (by exact rfl) (by
        intro u hu
        simp only [List.flatMap_cons, List.flatMap_nil, List.append_nil, Value.cells, List.mem_cons, List.not_mem_nil, or_false] at hu
        rcases hu with rfl | rfl
        · exact q1.one
        · exact q3.one) ?_ fun vo2 hvo2 => ?_
      · omega
      repeat' first
        | refine k_then ?_
        | refine c_region ?_
        | refine s_nil ?_
        | refine s_move (by exact rfl) (by exact rfl) ?_
        | refine s_assign (by exact rfl) (by exact rfl) ?_
        | refine s_add (by exact rfl) (by exact rfl) (by exact rfl) (by omega) ?_
        | refine k_blk ?_
      refine c_round (k + 1, vm, vo2) [2, 2, 2, 2, 2, 2] ?_ ⟨rfl, rfl, rfl, rfl, rfl, rfl, rfl, trivial⟩ (by dsimp only; omega) (by dsimp only; omega)
      dsimp only
      rw [hm1, hr1, List.append_nil, tabV_snoc, List.length_append, List.length_singleton]
      rfl
  · have hkk : k = tv.length := by omega
    rw [List.take_of_length_le (l := tv) (by omega), List.take_of_length_le (l := tabs) (by omega)]
    have htm := tabRO_mine (v := v) ht
    have hml := mineV_length (v := v) hlen
    have hrl := restV_length (v := v) hlen
    have hml2 : (mineV v tv tabs).length ≤ tv.length := mineV_le
    have hrl2 : (restV v tv tabs).length ≤ tv.length := restV_le
    refine know_row (v := vm) (.head _) fun hvm _ => ?_
    repeat' first
      | refine k_then ?_
      | refine c_seq ?_
      | refine c_region ?_
      | refine s_nil ?_
      | refine s_lss (by exact rfl) (by exact rfl) (by exact rfl) ?_
      | refine c_exit ?_
      | refine k_then_exit ?_
      | refine k_blk_eq ?_
      | (refine c_cond_p (by exact rfl) (fun h => ?_) (fun h => ?_) <;> try (exfalso; omega))
    clear h hkk hkl hk
    have hlv : ((nr ++ [v]).length : Nat) = nr.length + 1 := by simp
    refine p_begin [(0, true), (1, true), (3, true), (4, true), .rd 2 5, (6, false), (7, false), (8, false), (9, true)] [boxHP b3 74 [.int .i64 (v : Int), vx]] (by kernel_rfl) ?_
    repeat' first
      | (refine p_at (by exact rfl) ?_
         first
          | refine t_fa (by exact rfl) (by exact rfl) (by exact fun _ h => h.pick [2] (by exact rfl)) ?_
          | refine t_ld_box (by exact rfl) (by exact rfl) (by exact .head _) (by exact rfl) (by exact fun _ h => h.pick [2] (by exact rfl)) ?_)
    refine p_join (X := Value × Value) [(6, false), (7, false), (8, false), (9, true)] (fun x => [(42, x.1), (45, x.2), (0, .pointer (some ⟨bs, 0, none⟩)), (3, .pointer (some ⟨b3, 0, none⟩)), (4, vm), (5, vr)]) (fun x => [rowHP x.1 3 1 nr.length (nV nr), rowHP x.2 3 1 1 [.int .i64 (v : Int)], boxHP b3 74 [.int .i64 (v : Int), vx], rowHP vm 111 2 (mineV v tv tabs).length (tabV (mineV v tv tabs)), rowHP vr 111 2 (restV v tv tabs).length (tabV (restV v tv tabs)), boxHP bs 100 [vn, vt, vd], rowHP vt 111 2 tv.length (tabV tv), rowHP vd 90 1 fd.length fd]) (fun hk => ?_) ?_
    · refine p_rd ?_ ?_
      · refine p_call' (by exact rfl) (by exact rfl) (by exact rfl) (fun w h => Clone_ok vx nr w hx (ro_old h hrx) (by omega)) ?_
        rintro vc _ rfl
        refine ⟨fun _ h => h.pick [3] (by exact rfl), ?_⟩
        refine p_mk (sz := 1) [.int .i64 (v : Int)] (by exact rfl) (by exact rfl) (by exact rfl) rfl (by simp [Value.cells]) (by simp) (by simp) (fun _ _ h => h.pick [4] (by exact rfl)) fun va hva => ?_
        exact pj_end hk (vc, va) [1, 0, 2, 0, 0, 0, 0, 0] (by exact rfl) ⟨rfl, rfl, rfl, rfl, rfl, rfl, trivial⟩
      · refine p_mk (sz := 1) [.int .i64 (v : Int)] (by exact rfl) (by exact rfl) (by exact rfl) rfl (by simp [Value.cells]) (by simp) (by simp) (fun _ _ h => h.pick [3] (by exact rfl)) fun va hva => ?_
        refine p_call' (by exact rfl) (by exact rfl) (by exact rfl) (fun w h => Clone_ok vx nr w hx (ro_old h hrx) (by omega)) ?_
        rintro vc _ rfl
        refine ⟨fun _ h => h.pick [4] (by exact rfl), ?_⟩
        exact pj_end hk (vc, va) [0, 0, 2, 0, 0, 0, 0, 0] (by exact rfl) ⟨rfl, rfl, rfl, rfl, rfl, rfl, trivial⟩
    rintro ⟨vc, va⟩
    dsimp only
    refine p_append_row (bytes := 8) (j := 0) (by exact rfl) (by exact rfl) (by exact rfl) (by exact rfl) (by exact rfl) (.tail _ (.head _)) (by exact rfl) (by simp [Value.oneCell']) (by omega) (fun _ _ h => h.pick [2] (by exact rfl)) (fun v6 hv6 => ?_)
    refine p_call' (by exact rfl) (by exact rfl) (by exact rfl) (fun w h => Values_ok v6 w hv6.one) ?_
    rintro _ _ ⟨bq, rfl, rfl⟩
    refine ⟨fun _ h => h.pick [3] (by exact rfl), ?_⟩
    rw [← hlv] at hv6
    refine p_call' (vs := [_]) (by exact rfl) (by exact rfl) (by exact rfl) (fun w h => Sorted_ok _ [.pointer (some ⟨bq, 0, none⟩)] (nr ++ [v]) w (by omega) fun w' S' Sf hm hS => values1_ok bq v6 (nr ++ [v]) w' S' ((rb_own h (.head _)).fwd hm hS) hv6 (RO.fwd (ro_own h (ys := nV (nr ++ [v])) (e := 3) (sz := 1) (m := nr.length + 1) (by rw [show nV (nr ++ [v]) = nV nr ++ [.int .i64 (v : Int)] by simp [nV]]; exact .tail _ (.head _))) hm hS)) ?_
    rintro vA _ rfl
    refine ⟨fun _ h => h.pick [4] (by exact rfl), ?_⟩
    repeat' first
      | refine p_nil ?_
      | (refine p_at (by exact rfl) ?_
         first
          | refine t_assign (by exact rfl) (by exact rfl) (by exact fun _ h => h.pick [4] (by exact rfl)) ?_)
    refine c_pick [0, 3, 3, 3, 3, 3, 3] (by exact rfl) ?_
    have hal := allV_length nr v
    rw [allV_sort hasc, hlv, ← hal]
    have hvA := allV_asc hasc hvn
    have hpB := posB_all hasc hvn
    have hple := posL_le nr v
    refine know_row (v := vA) (.head _) fun hsA _ => ?_
    repeat' first
      | refine k_then ?_
      | refine c_seq ?_
      | refine c_region ?_
      | refine s_move (by exact rfl) (by exact rfl) ?_
      | refine s_fa (by exact rfl) (by exact rfl) ?_
      | refine s_ld_box (by exact rfl) (by exact rfl) (by exact .tail _ (.head _)) (by exact rfl) ?_
    refine s_call (by exact rfl) (by exact rfl) (fun w h => BinarySearch_ok vA (allV nr v) v w hsA (ro_own h (.head _)) hvA (by omega)) ?_
    rw [hpB]
    generalize hp : posL nr v = p at *
    repeat' first
      | refine k_then ?_
      | refine c_seq ?_
      | refine s_nil ?_
      | refine s_move (by exact rfl) (by exact rfl) ?_
      | refine s_assign (by exact rfl) (by exact rfl) ?_
      | refine s_extract (by exact rfl) (by exact rfl) (by exact rfl) ?_
    have hM : 2 ^ nr.length ≤ 549755813888 := Nat.pow_le_pow_right (n := 2) (by decide) h39
    generalize hMM : 2 ^ nr.length = M at *
    refine p_begin [(0, true), (1, true), (2, true), (3, true), (4, true), (5, true), (6, true), .tree (.two 7 (.two 8 (.one 9 .leaf) 9 (.one 8 .leaf)) 9 (.one 7 (.one 8 .leaf))), (10, false)] [boxHP b3 74 [.int .i64 (v : Int), vx]] (by kernel_rfl) ?_
    repeat' first
      | (refine p_at (by exact rfl) ?_
         first
          | refine t_fa (by exact rfl) (by exact rfl) (by exact fun _ h => h.pick [1] (by exact rfl)) ?_
          | refine t_ld_box (by exact rfl) (by exact rfl) (by exact .head _) (by exact rfl) (by exact fun _ h => h.pick [1] (by exact rfl)) ?_
          | refine t_len (by exact rfl) (by exact rfl) (by assumption) (by exact fun _ h => h.pick [1] (by exact rfl)) ?_)
    refine p_at (by exact rfl) ?_
    refine t_conv (by exact rfl) (by exact rfl) (by refine ⟨?_, ?_⟩ <;> simp [IntKind.min, IntKind.max, IntKind.signed, IntKind.bits] <;> omega) (by exact fun _ h => h.pick [1] (by exact rfl)) ?_
    refine p_at (by exact rfl) ?_
    refine t_shl (M : Int) (by exact rfl) (by exact rfl) (by exact rfl) ⟨by omega, by omega⟩ (by rw [show (nr.length : Int).toNat = nr.length by omega, Int.one_mul, ← hMM]; norm_cast) ⟨by omega, by omega⟩ (by exact fun _ h => h.pick [1] (by exact rfl)) ?_
    refine p_join (X := Value × Nat) [(10, false)] (fun x => [(64, .agg #[vx, x.1]), (11, .pointer (some ⟨x.2, 0, none⟩)), (0, .pointer (some ⟨bs, 0, none⟩)), (3, .pointer (some ⟨b3, 0, none⟩)), (4, vm), (5, vr), (8, vA), (9, .int .i64 (p : Int))]) (fun x => [rowHP x.1 3 1 M (nV (List.replicate M 0)), boxHP x.2 111 [.slice none 0 0, .slice none 0 0], rowHP vA 3 1 (allV nr v).length (nV (allV nr v)), boxHP b3 74 [.int .i64 (v : Int), vx], rowHP vm 111 2 (mineV v tv tabs).length (tabV (mineV v tv tabs)), rowHP vr 111 2 (restV v tv tabs).length (tabV (restV v tv tabs)), boxHP bs 100 [vn, vt, vd], rowHP vt 111 2 tv.length (tabV tv), rowHP vd 90 1 fd.length fd]) (fun hk => ?_) ?_
    · have hz : (madeCells (Value.int .i64 0).cells ((M : Int).toNat * 1)).toList = nV (List.replicate M 0) := by rw [made1 rfl]; simp [nV]
      have hcs : ∀ vb : Value, vb.oneCell' = true → ∀ q ∈ [(0, vx, [vx]), (1, vb, [vb])], (q : Nat × Value × List Value).2.1.cells.toList = q.2.2 := by
        intro vb hvb q hq
        simp only [List.mem_cons, List.not_mem_nil, or_false] at hq
        rcases hq with rfl | rfl
        · exact one_cells hx.one
        · exact one_cells hvb
      refine p_two ?_ ?_
      · refine p_make (bytes := 8) (by exact rfl) (by exact rfl) (by exact rfl) (by exact rfl) (by omega) (by omega) (fun _ _ h => h.pick [2] (by exact rfl)) fun vb hvb => ?_
        rw [hz]
        refine p_two ?_ ?_
        · refine p_build (cs := [vx, vb]) [(0, vx, [vx]), (1, vb, [vb])] (by exact rfl) (by exact rfl) (by exact rfl) (hcs vb hvb.one) ?_ (fun _ h => h.pick [2] (by exact rfl)) ?_
          · exact rfl
          refine p_one ?_
          refine p_alloc (by exact rfl) (by exact rfl) (fun _ _ h => h.pick [3] (by exact rfl)) fun b11 => ?_
          refine p_leaf ?_
          exact pj_end hk (vb, b11) [1, 0, 0, 0, 0, 0, 0, 0, 0] (by exact rfl) ⟨rfl, rfl, rfl, rfl, rfl, rfl, rfl, rfl, trivial⟩
        · refine p_alloc (by exact rfl) (by exact rfl) (fun _ _ h => h.pick [3] (by exact rfl)) fun b11 => ?_
          refine p_one ?_
          refine p_build (cs := [vx, vb]) [(0, vx, [vx]), (1, vb, [vb])] (by exact rfl) (by exact rfl) (by exact rfl) (hcs vb hvb.one) ?_ (fun _ h => h.pick [3] (by exact rfl)) ?_
          · exact rfl
          refine p_leaf ?_
          exact pj_end hk (vb, b11) [1, 0, 0, 0, 0, 0, 0, 0, 0] (by exact rfl) ⟨rfl, rfl, rfl, rfl, rfl, rfl, rfl, rfl, trivial⟩
      · refine p_alloc (by exact rfl) (by exact rfl) (fun _ _ h => h.pick [2] (by exact rfl)) fun b11 => ?_
        refine p_one ?_
        refine p_make (bytes := 8) (by exact rfl) (by exact rfl) (by exact rfl) (by exact rfl) (by omega) (by omega) (fun _ _ h => h.pick [3] (by exact rfl)) fun vb hvb => ?_
        rw [hz]
        refine p_one ?_
        refine p_build (cs := [vx, vb]) [(0, vx, [vx]), (1, vb, [vb])] (by exact rfl) (by exact rfl) (by exact rfl) (hcs vb hvb.one) ?_ (fun _ h => h.pick [3] (by exact rfl)) ?_
        · exact rfl
        refine p_leaf ?_
        exact pj_end hk (vb, b11) [0, 0, 0, 0, 0, 0, 0, 0, 0] (by exact rfl) ⟨rfl, rfl, rfl, rfl, rfl, rfl, rfl, rfl, trivial⟩
    rintro ⟨vb, b11⟩
    dsimp only
    refine know_rowP (v := vb) (.head _) fun hvb _ => ?_
    refine p_stk_box (j := 1) (us := [vx, vb]) (by exact rfl) (by exact rfl) (by exact rfl) (by exact rfl) (by exact rfl) (by exact rfl) (by
      intro u hu
      simp only [List.mem_cons, List.not_mem_nil, or_false] at hu
      rcases hu with rfl | rfl
      · exact hx.one
      · exact hvb.one) (by simp) (fun _ h => h.pick [3] (by exact rfl)) ?_
    repeat' first
      | refine p_nil ?_
    repeat' first
      | refine k_then ?_
      | refine c_seq ?_
      | refine c_region ?_
      | refine s_fa (by exact rfl) (by exact rfl) ?_
      | refine s_ld_box (by exact rfl) (by exact rfl) (by exact .tail _ (.head _)) (by exact rfl) ?_
      | refine s_len (by exact rfl) (by exact rfl) (by assumption) ?_
    refine o_make (by exact rfl) (by exact rfl) (by exact rfl) (by omega) (by omega) fun vi hvi => ?_
    rw [bVz]
    repeat' first
      | refine o_alloc (by exact rfl) (fun b => ?_)
    revert b; intro b12
    refine o_st_box (i := 0) (by exact rfl) (by exact rfl) (by exact rfl) hvi.one (by simp [Value.cells]) ?_
    repeat' first
      | refine k_then ?_
      | refine c_seq ?_
      | refine c_region ?_
      | refine s_nil ?_
      | refine s_move (by exact rfl) (by exact rfl) ?_
      | refine s_fa (by exact rfl) (by exact rfl) ?_
      | refine s_ld_box (by exact rfl) (by exact rfl) (by exact .tail _ (.tail _ (.tail _ (.head _)))) (by exact rfl) ?_
      | refine s_len (by exact rfl) (by exact rfl) (by assumption) ?_
      | refine c_block ?_
    have hvi : Shp vi M := hvi
    have hof : ∀ t ∈ mineT v tabs, TabOK t ∧ (∀ u ∈ t.1, u ∈ allV nr v) ∧ t.1.length ≤ 40 := fun t ht => by
      obtain ⟨h1, h2⟩ := List.mem_filter.1 ht
      obtain ⟨o1, o2, o3⟩ := hok t h1
      exact ⟨o1, o2 (by simpa using h2), o3⟩
    have hsm : ∀ C, sumT (mineT v tabs) C ≤ 1000000 := fun C => Nat.le_trans (sumT_filter _ _ _) (hsum C)
    have hcnt : ∀ (C : Nat → Bool) (w1 : World) (L1 : List HP), St w S L1 w1 → rowHP vA 3 1 (allV nr v).length (nV (allV nr v)) ∈ L1 → rowHP vm 111 2 (mineV v tv tabs).length (tabV (mineV v tv tabs)) ∈ L1 → Calls Try.prog 82 #[.int .i64 (encL (allV nr v) C : Int), vA, vm] w1 (Post w1 No (Just (.int .i64 (sumT (mineT v tabs) C : Int)))) := fun C w1 L1 h h1 h2 =>
      count_ok vA vm (allV nr v) (mineV v tv tabs) (mineT v tabs) C w1 hsA (ro_own h h1) hvA (by omega) hvm (ro_own h h2) (tabRO_old h htm) hof (by have := hsm C; omega)
    refine c_loop (fun c : Nat => c ≤ M) (fun c => [(0, .pointer (some ⟨bs, 0, none⟩)), (3, .pointer (some ⟨b3, 0, none⟩)), (4, vm), (5, vr), (8, vA), (9, .int .i64 (p : Int)), (11, .pointer (some ⟨b11, 0, none⟩)), (12, .pointer (some ⟨b12, 0, none⟩)), (71, .int .i64 (M : Int)), (72, .int .i64 (c : Int))])
      (fun c => [boxHP b12 35 [vi], rowHP vi 4 1 M (bV (upTo M c (fun j => inV near v nr tabs (decL nr j)) false)), rowHP vb 3 1 M (nV (upTo M c (fun j => newV near v nr tabs (decL nr j)) 0)), boxHP b11 111 [vx, vb], rowHP vA 3 1 (allV nr v).length (nV (allV nr v)), boxHP b3 74 [.int .i64 (v : Int), vx], rowHP vm 111 2 (mineV v tv tabs).length (tabV (mineV v tv tabs)), rowHP vr 111 2 (restV v tv tabs).length (tabV (restV v tv tabs)), boxHP bs 100 [vn, vt, vd], rowHP vt 111 2 tv.length (tabV tv), rowHP vd 90 1 fd.length fd]) (fun c => M - c) 0 [0, 0, 0, 0, 0, 0, 0, 0, 0, 0, 0] (Nat.zero_le _) (by rw [upTo_zero, upTo_zero]; exact rfl) ⟨rfl, rfl, rfl, rfl, rfl, rfl, rfl, rfl, rfl, rfl, trivial⟩ ?_
    intro c hc
    by_cases hcl : c < M
    · have hDv : decL nr c v = false := by rw [decL, decide_eq_false hvn, Bool.false_and]
      have hcD : encL nr (decL nr c) = c := encL_dec hasc.nodup (by rw [hMM]; exact hcl)
      have hsp := encL_split nr p (decL nr c) hple
      have hlo := encL_lt (nr.take p) (decL nr c)
      rw [List.length_take, Nat.min_eq_left hple] at hlo
      have ha0 := encL_all0 (nr := nr) hDv
      have ha1 := encL_all1 (nr := nr) (C := decL nr c) hvn
      rw [hp] at ha0 ha1
      have hf0 : (fun j => newV near v nr tabs (decL nr j)) c = if inV near v nr tabs (decL nr c) then sumT (mineT v tabs) (S1 v (decL nr c)) + 1 else sumT (mineT v tabs) (decL nr c) := rfl
      have hg0 : (fun j => inV near v nr tabs (decL nr j)) c = (okV near v nr (decL nr c) && decide (sumT (mineT v tabs) (decL nr c) < sumT (mineT v tabs) (S1 v (decL nr c)) + 1)) := rfl
      generalize (fun j => newV near v nr tabs (decL nr j)) = f at *
      generalize (fun j => inV near v nr tabs (decL nr j)) = g at *
      have hD : inV near v nr tabs (decL nr c) = g c := hg0.symm
      rw [hD] at hf0
      generalize hDD : decL nr c = D at *
      rw [hcD] at hsp
      have hp2 : 2 ^ p ≤ M := by rw [← hMM]; exact Nat.pow_le_pow_right (by decide) hple
      generalize encL (nr.take p) D = e0 at *
      generalize encL (nr.drop p) D = e1 at *
      repeat' first
        | refine k_then ?_
        | refine c_seq ?_
        | refine c_region ?_
        | refine s_nil ?_
        | refine s_move (by exact rfl) (by exact rfl) ?_
        | refine s_assign (by exact rfl) (by exact rfl) ?_
        | refine s_lss (by exact rfl) (by exact rfl) (by exact rfl) ?_
        | refine c_block ?_
        | refine c_skip ?_
        | (refine c_cond_p (by exact rfl) (fun h => ?_) (fun h => ?_) <;> try (exfalso; omega))
        | refine s_conv (by exact rfl) (by exact rfl) (by refine ⟨?_, ?_⟩ <;> simp [IntKind.min, IntKind.max, IntKind.signed, IntKind.bits] <;> omega) ?_
      refine s_shl ((2 ^ p : Nat) : Int) (by exact rfl) (by exact rfl) (by exact rfl) ⟨by omega, by omega⟩ (by rw [show (p : Int).toNat = p by omega, Int.one_mul]; norm_cast) ⟨by omega, by omega⟩ ?_
      repeat' first
        | refine s_sub (by exact rfl) (by exact rfl) (by exact rfl) (by omega) ?_
      refine s_and (e0 : Int) (by exact rfl) (by exact rfl) (by exact rfl) ⟨by omega, by omega⟩ ⟨by omega, by omega⟩ (by
        rw [show (c : Int).toNat = c by omega, show (((2 ^ p : Nat) : Int) - 1).toNat = 2 ^ p - 1 by omega, Nat.and_two_pow_sub_one_eq_mod, hsp, Nat.add_mul_mod_self_left, Nat.mod_eq_of_lt hlo]) ?_
      have hle0 : e0 ≤ c := by rw [hsp]; exact Nat.le_add_right _ _
      repeat' first
        | refine k_then ?_
        | refine c_seq ?_
        | refine c_region ?_
        | refine s_nil ?_
        | refine s_move (by exact rfl) (by exact rfl) ?_
        | refine s_assign (by exact rfl) (by exact rfl) ?_
        | refine s_sub (by exact rfl) (by exact rfl) (by exact rfl) (by omega) ?_
      have hce : c - e0 = 2 ^ p * e1 := by rw [hsp, Nat.add_sub_cancel_left]
      have hout : 2 ^ p * (2 * e1) = 2 * (c - e0) := by rw [hce, Nat.mul_left_comm]
      have hout1 : 2 ^ p * (1 + 2 * e1) = 2 ^ p + 2 * (c - e0) := by rw [Nat.mul_add, Nat.mul_one, hout]
      refine s_shl ((2 ^ p * (2 * e1) : Nat) : Int) (by exact rfl) (by exact rfl) (by exact rfl) ⟨by omega, by omega⟩ (by rw [hout, show ((1 : Int).toNat) = 1 from rfl]; omega) ⟨by omega, by omega⟩ ?_
      skip
      refine s_or ((encL (allV nr v) D : Nat) : Int) (by exact rfl) (by exact rfl) (by exact rfl) ⟨by omega, by omega⟩ ⟨by omega, by omega⟩ (by
        rw [show ((e0 : Nat) : Int).toNat = e0 by omega, show ((2 ^ p * (2 * e1) : Nat) : Int).toNat = 2 ^ p * (2 * e1) by omega, or_low hlo, ha0]) ?_
      repeat' first
        | refine k_then ?_
        | refine c_seq ?_
        | refine s_nil ?_
        | refine s_assign (by exact rfl) (by exact rfl) ?_
      have hs0 := hsm D
      have hs1 := hsm (S1 v D)
      have hcn0 := hcnt D
      have hcn1 := hcnt (S1 v D)
      generalize sumT (mineT v tabs) D = a0 at *
      generalize sumT (mineT v tabs) (S1 v D) = a1 at *
      refine p_begin [(0, true), (1, true), (2, true), (3, true), (4, true), (5, true), (6, false), (7, true), (8, false)] [boxHP b11 111 [vx, vb]] (by kernel_rfl) ?_
      repeat' first
        | (refine p_at (by exact rfl) ?_
           first
            | refine t_move (by exact rfl) (by exact rfl) (by exact fun _ h => h.pick [3] (by exact rfl)) ?_
            | refine t_fa (by exact rfl) (by exact rfl) (by exact fun _ h => h.pick [3] (by exact rfl)) ?_
            | refine t_ld_box (by exact rfl) (by exact rfl) (by exact .head _) (by exact rfl) (by exact fun _ h => h.pick [3] (by exact rfl)) ?_)
      refine p_call (gd := none) (by exact rfl) (by exact rfl) (by exact rfl) (fun w h => hcn0 w _ h (.tail _ (.tail _ (.tail _ (.tail _ (.head _))))) (.tail _ (.tail _ (.tail _ (.tail _ (.tail _ (.tail _ (.head _)))))))) (by exact fun _ h => h.pick [3] (by exact rfl)) ?_
      repeat' first
        | (refine p_at (by exact rfl) ?_
           first
            | refine t_idx (by exact rfl) (by exact rfl) (by exact rfl) (by assumption) (by first | assumption | omega) (by exact fun _ h => h.pick [3] (by exact rfl)) ?_)
      refine p_st_row (j := 2) (by exact rfl) (by exact rfl) (by exact rfl) (by exact rfl) rfl (by omega) (fun _ h => h.pick [3] (by exact rfl)) ?_
      repeat' first
        | refine p_nil ?_
      rw [nV_set]
      repeat' first
        | refine k_then ?_
        | refine c_seq ?_
        | refine c_region ?_
        | refine s_move (by exact rfl) (by exact rfl) ?_
        | refine s_fa (by exact rfl) (by exact rfl) ?_
        | refine s_ld_box (by exact rfl) (by exact rfl) (by exact .tail _ (.tail _ (.tail _ (.tail _ (.tail _ (.head _)))))) (by exact rfl) ?_
      refine s_call (vs := [_, _, _, _]) (by exact rfl) (by exact rfl) (fun w h => hcD ▸ allowed_ok bs vn vt vd vx hn near nr D v w (rb_own h (.tail _ (.tail _ (.tail _ (.tail _ (.tail _ (.tail _ (.tail _ (.tail _ (.head _)))))))))) (ros_old h hrn) hv hN hx (ro_old h hrx) (by omega)) ?_
      rw [show decide (∀ u ∈ nr, D u = true → u ∉ near.getD v []) = okV near v nr D from rfl]
      have hld : (nV ((upTo M c f 0).set c a0))[c * 1]? = some (.int .i64 (a0 : Int)) := by simp [nV, upTo_length, hcl]
      have hf1 : a0 = f c → (upTo M c f 0).set c a0 = upTo M (c + 1) f 0 := fun e => by rw [e]; exact upTo_set hcl f 0
      cases hoV : okV near v nr D
      · rw [hoV, Bool.false_and] at hg0
        rw [hg0, if_neg (by simp)] at hf0
        repeat' first
          | refine k_then ?_
          | refine c_region ?_
          | refine s_nil ?_
          | refine s_move (by exact rfl) (by exact rfl) ?_
          | refine s_add (by exact rfl) (by exact rfl) (by exact rfl) (by omega) ?_
          | refine s_not (by exact rfl) (by exact rfl) ?_
          | refine c_exit ?_
          | refine k_then_exit ?_
          | refine k_blk_eq ?_
          | refine c_cond_t (by exact rfl) ?_
        refine c_round (c + 1) [0, 0, 0, 0, 0, 0, 0, 0, 0, 0, 0] (by rw [upTo_same g false hg0, ← hf1 hf0.symm]; exact rfl) ⟨rfl, rfl, rfl, rfl, rfl, rfl, rfl, rfl, rfl, rfl, trivial⟩ (by omega) (by omega)
      · rw [hoV, Bool.true_and] at hg0
        repeat' first
          | refine k_then ?_
          | refine c_seq ?_
          | refine c_region ?_
          | refine s_nil ?_
          | refine s_move (by exact rfl) (by exact rfl) ?_
          | refine s_not (by exact rfl) (by exact rfl) ?_
          | refine c_skip ?_
          | refine c_cond_f (by exact rfl) ?_
          | refine s_conv (by exact rfl) (by exact rfl) (by refine ⟨?_, ?_⟩ <;> simp [IntKind.min, IntKind.max, IntKind.signed, IntKind.bits] <;> omega) ?_
        refine s_shl ((2 ^ p : Nat) : Int) (by exact rfl) (by exact rfl) (by exact rfl) ⟨by omega, by omega⟩ (by rw [show (p : Int).toNat = p by omega, Int.one_mul]; norm_cast) ⟨by omega, by omega⟩ ?_
        skip
        refine s_or ((encL (allV nr v) (S1 v D) : Nat) : Int) (by exact rfl) (by exact rfl) (by exact rfl) ⟨by omega, by omega⟩ ⟨by omega, by omega⟩ (by
          rw [show ((encL (allV nr v) D : Nat) : Int).toNat = encL (allV nr v) D by omega, show ((2 ^ p : Nat) : Int).toNat = 2 ^ p by omega, ha0, ha1, or_bit hlo]) ?_
        repeat' first
          | refine s_move (by exact rfl) (by exact rfl) ?_
        refine s_call (by exact rfl) (by exact rfl) (fun w h => hcn1 w _ h (.tail _ (.tail _ (.tail _ (.tail _ (.head _))))) (.tail _ (.tail _ (.tail _ (.tail _ (.tail _ (.tail _ (.head _)))))))) ?_
        repeat' first
          | refine k_then ?_
          | refine c_seq ?_
          | refine c_region ?_
          | refine s_nil ?_
          | refine s_move (by exact rfl) (by exact rfl) ?_
          | refine s_assign (by exact rfl) (by exact rfl) ?_
          | refine s_geq (by exact rfl) (by exact rfl) (by exact rfl) ?_
          | refine s_add (by exact rfl) (by exact rfl) (by exact rfl) (by omega) ?_
          | refine s_pick_t (by exact rfl) (by exact rfl) (by exact rfl) ?_
          | refine c_skip ?_
          | refine k_blk ?_
          | (refine c_cond_p (by exact rfl) (fun h => ?_) (fun h => ?_) <;> try (exfalso; omega))
          | (refine g_case (by exact rfl) (by exact rfl) (fun h => ?_) (fun h => ?_) <;> try (exfalso; omega))
          | refine w_move (by exact rfl) (by exact rfl) (by exact rfl) (by exact rfl) ?_
          | refine w_fa (by exact rfl) (by exact rfl) (by exact rfl) (by exact rfl) ?_
          | refine w_ld_box (by exact rfl) (by exact rfl) (by exact rfl) (by exact rfl) (by exact .tail _ (.tail _ (.tail _ (.head _)))) (by exact rfl) ?_
          | refine w_gtr (by exact rfl) (by exact rfl) (by exact rfl) (by exact rfl) (by exact rfl) ?_
          | refine w_add (by exact rfl) (by exact rfl) (by exact rfl) (by exact rfl) (by exact rfl) (by omega) ?_
          | refine w_idx (by exact rfl) (by exact rfl) (by exact rfl) (by exact rfl) (by exact rfl) (by assumption) (by first | assumption | omega) ?_
          | refine w_ld_row (by exact rfl) (by exact rfl) (by exact rfl) (by exact rfl) (by exact .tail _ (.tail _ (.head _))) (by assumption) ?_
        · rw [decide_eq_true (by omega)] at hg0
          rw [hg0, if_pos rfl] at hf0
          have hu1 := upTo_set hcl g false
          rw [hg0] at hu1
          have hu2 : (upTo M c f 0).set c (a1 + 1) = upTo M (c + 1) f 0 := by rw [← hf0]; exact upTo_set hcl f 0
          refine c_pick [1, 1, 0, 0, 0, 0, 0, 0, 0, 0, 0] (by exact rfl) ?_
          refine p_beginB [(0, true), (1, true), (2, true), (3, true), (4, true), (5, true), (6, true), (7, true), (8, false), (9, true), (10, false)] (by kernel_rfl) ?_
          repeat' first
            | (refine p_at (by exact rfl) ?_
               first
                | refine t_move (by exact rfl) (by exact rfl) (by exact fun _ h => h.tl.tl) ?_
                | refine t_fa (by exact rfl) (by exact rfl) (by exact fun _ h => h.tl.tl) ?_
                | refine t_ld_box (by exact rfl) (by exact rfl) (by first | exact .head _ | exact .tail _ (.head _)) (by exact rfl) (by exact fun _ h => h.tl.tl) ?_
                | refine t_add (by exact rfl) (by exact rfl) (by exact rfl) (by omega) (by exact fun _ h => h.tl.tl) ?_
                | refine t_idx (by exact rfl) (by exact rfl) (by exact rfl) (by assumption) (by first | assumption | omega) (by exact fun _ h => h.tl.tl) ?_)
          refine p_st_row (j := 1) (by exact rfl) (by exact rfl) (by exact rfl) (by exact rfl) rfl (by omega) (fun _ h => h.tl.tl) ?_
          rw [show (a1 : Int) + 1 = ((a1 + 1 : Nat) : Int) by omega, nV_set, List.set_set, hu2]
          repeat' first
            | (refine p_at (by exact rfl) ?_
               first
                | refine t_idx (by exact rfl) (by exact rfl) (by exact rfl) (by assumption) (by first | assumption | omega) (by exact fun _ h => h.tl.tl) ?_)
          refine p_st_row (j := 0) (by exact rfl) (by exact rfl) (by exact rfl) (by exact rfl) rfl (by omega) (fun _ h => h.tl.tl) ?_
          rw [bV_set, hu1]
          repeat' first
            | refine p_nil ?_
          repeat' first
            | refine k_then ?_
            | refine c_region ?_
            | refine s_nil ?_
            | refine s_move (by exact rfl) (by exact rfl) ?_
            | refine s_add (by exact rfl) (by exact rfl) (by exact rfl) (by omega) ?_
            | refine k_blk ?_
          refine c_round (c + 1) [2, 0, 0, 0, 0, 0, 0, 0, 0, 0, 0] (by exact rfl) ⟨rfl, rfl, rfl, rfl, rfl, rfl, rfl, rfl, rfl, rfl, trivial⟩ (by omega) (by omega)
        · rw [decide_eq_false (by omega)] at hg0
          rw [hg0, if_neg (by simp)] at hf0
          skip
          refine c_round (c + 1) [0, 0, 0, 0, 0, 0, 0, 0, 0, 0, 0] (by rw [upTo_same g false hg0, ← hf1 hf0.symm]; exact rfl) ⟨rfl, rfl, rfl, rfl, rfl, rfl, rfl, rfl, rfl, rfl, trivial⟩ (by omega) (by omega)
    · have hcM : c = M := by omega
      rw [hcM, upTo_all, upTo_all]
      refine c_pick [8, 7, 8, 3, 2, 0, 0] (by exact rfl) ?_
      repeat' first
        | refine k_then ?_
        | refine c_seq ?_
        | refine c_region ?_
        | refine s_nil ?_
        | refine s_move (by exact rfl) (by exact rfl) ?_
        | refine s_lss (by exact rfl) (by exact rfl) (by exact rfl) ?_
        | refine s_ldk_box (by exact rfl) (by exact rfl) (by exact .tail _ (.tail _ (.tail _ (.head _)))) (by exact rfl) (by exact rfl) ?_
        | refine c_exit ?_
        | refine k_then_exit ?_
        | refine k_blk_eq ?_
        | (refine c_cond_p (by exact rfl) (fun h => ?_) (fun h => ?_) <;> try (exfalso; omega))
      refine o_mk [.agg #[vx, vb]] (by exact rfl) (by exact rfl) rfl ?_ ?_ (by simp) fun v1 hv1 => ?_
      · simp [Value.cells]
      · simp
      skip
      refine o_append_row (i := 2) (by exact rfl) (by exact rfl) (by exact rfl) (by exact rfl) (by exact .head _) (by exact rfl) (by
        intro u hu
        simp only [List.flatMap_cons, List.flatMap_nil, List.append_nil, Value.cells, List.mem_cons, List.not_mem_nil, or_false] at hu
        rcases hu with rfl | rfl
        · exact hx.one
        · exact hvb.one) (by omega) fun vt2 hvt2 => ?_
      repeat' first
        | refine s_fa (by exact rfl) (by exact rfl) ?_
        | refine s_nilc (by exact rfl) (by exact rfl) ?_
      refine o_st_box (i := 1) (by exact rfl) (by exact rfl) (by exact rfl) hvt2.one (by simp) ?_
      repeat' first
        | refine k_then ?_
        | refine c_region ?_
        | refine s_nil ?_
        | refine s_move (by exact rfl) (by exact rfl) ?_
        | refine s_fa (by exact rfl) (by exact rfl) ?_
        | refine s_ld_box (by exact rfl) (by exact rfl) (by exact .tail _ (.head _)) (by exact rfl) ?_
        | refine s_nilc (by exact rfl) (by exact rfl) ?_
      refine o_mkf [] [.pointer (some ⟨b12, 0, none⟩)] (by exact rfl) (by exact rfl) (by exact rfl) ?_
      skip
      refine o_mk [.func (.func 84) #[] #[.pointer (some ⟨b12, 0, none⟩)]] (by exact rfl) (by exact rfl) rfl ?_ ?_ (by simp) fun v2 hv2 => ?_
      · simp [Value.cells]
      · simp
      skip
      refine o_append_row (i := 4) (by exact rfl) (by exact rfl) (by exact rfl) (by exact rfl) (by exact .head _) (by exact rfl) (by simp [Value.cells, Value.oneCell']) (by omega) fun vd2 hvd2 => ?_
      repeat' first
        | refine s_fa (by exact rfl) (by exact rfl) ?_
        | refine s_nilc (by exact rfl) (by exact rfl) ?_
      refine o_st_box (i := 2) (by exact rfl) (by exact rfl) (by exact rfl) hvd2.one (by simp) ?_
      repeat' first
        | refine s_nil ?_
      refine ret0 [2, 2, 2, 3, 3, 3] rfl rfl ⟨vt2, vd2, vb, vi, b12, ?_⟩
      rw [tabV_snoc, List.length_append, List.length_singleton, bestL_new, hMM]
      rw [inL, hMM]
      rfl
end Go.Proofs.Ytkekpgkacjpjnaa
end
section
set_option linter.unusedVariables false
namespace Fil
/-- how many of some can be in, none of them next to another one, nor to one of a choice -/
def val (nb : Nat → List Nat) : List Nat → (Nat → Bool) → Nat
  | [], _ => 0
  | v :: E, C => if (nb v).all (fun u => !C u) then max (val nb E C) (val nb E (S1 v C) + 1) else val nb E C
structure Ind (nb : Nat → List Nat) (Y : List Nat) (C : Nat → Bool) : Prop where
  nd : Y.Nodup
  no : ∀ u ∈ Y, ∀ v ∈ Y, u ∉ nb v
  out : ∀ u ∈ Y, ∀ w ∈ nb u, C w = false
theorem val_upper {nb : Nat → List Nat} : ∀ {E Y : List Nat} {C : Nat → Bool}, Ind nb Y C → (∀ u ∈ Y, u ∈ E) → Y.length ≤ val nb E C
  | [], Y, C, h, hs => by
    cases Y with
    | nil => exact Nat.le_refl _
    | cons a Y => exact absurd (hs a (.head _)) (by simp)
  | v :: E, Y, C, h, hs => by
    rw [val]
    by_cases hv : v ∈ Y
    · have hok : (nb v).all (fun u => !C u) = true := by
        rw [List.all_eq_true]
        intro u hu
        rw [h.out v hv u hu]; rfl
      have h1 : Ind nb (Y.erase v) (S1 v C) := by
        refine ⟨h.nd.erase v, fun u hu x hx => h.no u (List.mem_of_mem_erase hu) x (List.mem_of_mem_erase hx), fun u hu x hx => ?_⟩
        have hu' := List.mem_of_mem_erase hu
        have : x ≠ v := fun e => h.no v hv u hu' (e ▸ hx)
        rw [S1, h.out u hu' x hx]
        simp [this]
      have h2 : ∀ u ∈ Y.erase v, u ∈ E := fun u hu => by
        have h3 := hs u (List.mem_of_mem_erase hu)
        rcases List.mem_cons.1 h3 with rfl | h3
        · exact absurd hu (fun hu => (h.nd.mem_erase_iff.1 hu).1 rfl)
        · exact h3
      have h3 := val_upper h1 h2
      rw [List.length_erase_of_mem hv] at h3
      rw [if_pos hok]
      have : 0 < Y.length := List.length_pos_of_mem hv
      omega
    · have h2 : ∀ u ∈ Y, u ∈ E := fun u hu => by
        rcases List.mem_cons.1 (hs u hu) with rfl | h3
        · exact absurd hu hv
        · exact h3
      have h3 := val_upper h h2
      split <;> omega
/-- is a vertex in, with a choice of those behind it? -/
def inB (nb : Nat → List Nat) (v : Nat) (E : List Nat) (C : Nat → Bool) : Bool := (nb v).all (fun u => !C u) && decide (val nb E C < val nb E (S1 v C) + 1)
def pickE (nb : Nat → List Nat) : List Nat → (Nat → Bool) → List Nat
  | [], _ => []
  | v :: E, C => if inB nb v E C then v :: pickE nb E (S1 v C) else pickE nb E C
theorem pickE_length (nb : Nat → List Nat) : ∀ (E : List Nat) (C : Nat → Bool), (pickE nb E C).length = val nb E C
  | [], _ => rfl
  | v :: E, C => by
    have h1 := pickE_length nb E C
    have h2 := pickE_length nb E (S1 v C)
    rw [pickE, val]
    cases h : (nb v).all (fun u => !C u)
    · rw [inB, h, Bool.false_and, if_neg (by simp), if_neg (by simp), h1]
    · rw [inB, h, Bool.true_and, if_pos rfl]
      by_cases hlt : val nb E C < val nb E (S1 v C) + 1
      · rw [decide_eq_true hlt, if_pos rfl, List.length_cons, h2]; omega
      · rw [decide_eq_false hlt, if_neg (by simp), h1]; omega
theorem pickE_sub (nb : Nat → List Nat) : ∀ (E : List Nat) (C : Nat → Bool), (pickE nb E C).Sublist E
  | [], _ => .slnil
  | v :: E, C => by
    rw [pickE]
    split
    · exact (pickE_sub nb E _).cons_cons v
    · exact (pickE_sub nb E _).cons v
theorem pickE_ind {nb : Nat → List Nat} (hsym : ∀ u v, u ∈ nb v → v ∈ nb u) (hirr : ∀ v, v ∉ nb v) : ∀ (E : List Nat) (C : Nat → Bool), E.Nodup → Ind nb (pickE nb E C) C
  | [], C, _ => ⟨.nil, by simp [pickE], by simp [pickE]⟩
  | v :: E, C, hn => by
    obtain ⟨hvE, hn⟩ := List.nodup_cons.1 hn
    rw [pickE]
    split
    · rename_i hb
      simp only [inB, Bool.and_eq_true] at hb
      have h := pickE_ind hsym hirr E (S1 v C) hn
      have hall := List.all_eq_true.1 hb.1
      have hout : ∀ u ∈ pickE nb E (S1 v C), ∀ w ∈ nb u, C w = false ∧ w ≠ v := fun u hu w hw => by
        have := h.out u hu w hw
        simpa [S1] using this
      refine ⟨List.nodup_cons.2 ⟨fun hm => hvE ((pickE_sub nb E _).mem hm), h.nd⟩, ?_, ?_⟩
      · intro u hu x hx
        rcases List.mem_cons.1 hu with rfl | hu
        · rcases List.mem_cons.1 hx with rfl | hx
          · exact hirr _
          · exact fun hm => (hout x hx _ hm).2 rfl
        · rcases List.mem_cons.1 hx with rfl | hx
          · exact fun hm => (hout u hu _ (hsym _ _ hm)).2 rfl
          · exact h.no u hu x hx
      · intro u hu w hw
        rcases List.mem_cons.1 hu with rfl | hu
        · simpa using hall w hw
        · exact (hout u hu w hw).1
    · exact pickE_ind hsym hirr E C hn
/-- what is known as a vertex is eliminated -/
structure StepOK (N : Nat) (near : List (List Nat)) (nb : Nat → List Nat) (v : Nat) (nr : List Nat) (tabs : List Tab) (E : List Nat) : Prop where
  asc : Asc nr
  vn : v ∉ nr
  lt : v < N
  small : nr.length ≤ N
  nrlt : ∀ u ∈ nr, u < N ∧ u ∉ E
  tok : ∀ t ∈ tabs, TabOK t ∧ (v ∈ t.1 → ∀ u ∈ t.1, u ∈ allV nr v) ∧ t.1.length ≤ N
  sum : ∀ C, sumT tabs C ≤ E.length
  few : tabs.length ≤ E.length
  new : v ∉ E
  inn : ∀ C, (∀ e ∈ E, C e = false) → C v = false → inV near v nr tabs (resC nr C) = inB nb v E C
def GoodT (N : Nat) (near : List (List Nat)) (nb : Nat → List Nat) : List Tab → List Nat → List (Nat × List Nat) → Prop
  | _, _, [] => True
  | tabs, E, p :: l => StepOK N near nb p.1 p.2 tabs E ∧ GoodT N near nb (restT p.1 tabs ++ [newT near p.1 p.2 tabs]) (p.1 :: E) l
def tabsT (near : List (List Nat)) (tabs : List Tab) (l : List (Nat × List Nat)) : List Tab := l.foldl (fun tabs p => restT p.1 tabs ++ [newT near p.1 p.2 tabs]) tabs
theorem tabsT_snoc (near : List (List Nat)) (tabs : List Tab) (l : List (Nat × List Nat)) (p : Nat × List Nat) : tabsT near tabs (l ++ [p]) = restT p.1 (tabsT near tabs l) ++ [newT near p.1 p.2 (tabsT near tabs l)] := by simp [tabsT]
theorem GoodT.at {N : Nat} {near : List (List Nat)} {nb : Nat → List Nat} {p : Nat × List Nat} : ∀ {l l2 : List (Nat × List Nat)} {tabs : List Tab} {E : List Nat}, GoodT N near nb tabs E (l ++ p :: l2) → StepOK N near nb p.1 p.2 (tabsT near tabs l) ((l.map Prod.fst).reverse ++ E)
  | [], l2, tabs, E, h => h.1
  | q :: l, l2, tabs, E, h => by
    have := GoodT.at (l := l) (l2 := l2) h.2
    simpa [tabsT] using this
/-- what holds as vertices are eliminated -/
structure EI (N : Nat) (near : List (List Nat)) (nb : Nat → List Nat) (keep : Nat → Bool) (A : Nat → Option (List Nat)) (tabs : List Tab) (E : List Nat) : Prop where
  wf : WF N A
  nbA : ∀ a m, A a = some m → ∀ u ∈ nb a, A u ≠ none → u ∈ m
  iso : ∀ a m, keep a = false → A a = some m → m = []
  gone : ∀ e ∈ E, e < N ∧ A e = none
  left : ∀ a, a < N → A a = none → a ∈ E ∨ keep a = false
  nd : E.Nodup
  tok : ∀ t ∈ tabs, TabOK t ∧ t.1.length ≤ N
  clq : ∀ t ∈ tabs, ∀ a ∈ t.1, ∃ m, A a = some m ∧ ∀ b ∈ t.1, b ≠ a → b ∈ m
  sum : ∀ C, (∀ e ∈ E, C e = false) → sumT tabs C = val nb E C
  le : ∀ C, sumT tabs C ≤ E.length
  few : tabs.length ≤ E.length
  tk : ∀ t ∈ tabs, ∀ a ∈ t.1, keep a = true
theorem sumT_append (l m : List Tab) (C : Nat → Bool) : sumT (l ++ m) C = sumT l C + sumT m C := by simp [sumT]
theorem sumT_congr {l : List Tab} {C C' : Nat → Bool} (h : ∀ t ∈ l, t.2 C = t.2 C') : sumT l C = sumT l C' := by
  rw [sumT, sumT, List.map_congr_left h]
section
variable {N : Nat} {near : List (List Nat)} {nb : Nat → List Nat} {keep : Nat → Bool} {A : Nat → Option (List Nat)} {tabs : List Tab} {E : List Nat} {v : Nat} {l : List Nat}
theorem elimF_some (h : WF N A) (hA : A v = some l) {a : Nat} {m : List Nat} : elimF A v a = some m ↔ a ≠ v ∧ ∃ m0, A a = some m0 ∧ m = if a ∈ l then addL (m0.filter fun x => x ≠ v) a (sortN l) else m0.filter fun x => x ≠ v := by
  rw [elimF, hA, Option.getD_some, joinF_some]
  constructor
  · rintro ⟨m1, h1, rfl⟩
    obtain ⟨h2, m0, h3, rfl⟩ := (takeF_some h hA).1 h1
    refine ⟨h2, m0, h3, ?_⟩
    simp only [(sortN_perm l).mem_iff]
  · rintro ⟨h2, m0, h3, rfl⟩
    refine ⟨_, (takeF_some h hA).2 ⟨h2, m0, h3, rfl⟩, ?_⟩
    simp only [(sortN_perm l).mem_iff]
theorem elimF_none (h : WF N A) (hA : A v = some l) {a : Nat} : elimF A v a = none ↔ a = v ∨ A a = none := by
  rw [elimF, hA, Option.getD_some, joinF_none, takeF_none (N := N)]
theorem elimF_keeps (h : WF N A) (hA : A v = some l) {a b : Nat} {m : List Nat} (ha : A a = some m) (hne : a ≠ v) (hb : b ∈ m) (hbv : b ≠ v) : ∃ m', elimF A v a = some m' ∧ b ∈ m' := by
  refine ⟨_, (elimF_some h hA).2 ⟨hne, m, ha, rfl⟩, ?_⟩
  have : b ∈ m.filter fun x => x ≠ v := List.mem_filter.2 ⟨hb, by simpa using hbv⟩
  split
  · exact mem_addL.2 (.inl this)
  · exact this
theorem EI.skip (h : EI N near nb keep A tabs E) (hA : A v = some l) (hk : keep v = false) : EI N near nb keep (elimF A v) tabs E := by
  have hl := h.iso v l hk hA
  subst hl
  have hs : ∀ a m, elimF A v a = some m ↔ a ≠ v ∧ ∃ m0, A a = some m0 ∧ m = m0.filter fun x => x ≠ v := fun a m => by
    rw [elimF_some h.wf hA]; simp
  refine ⟨h.wf.elim hA, ?_, ?_, ?_, ?_, h.nd, h.tok, ?_, h.sum, h.le, h.few, h.tk⟩
  · intro a m hm u hu hun
    obtain ⟨h1, m0, h2, rfl⟩ := (hs a m).1 hm
    have hun' : ¬ (u = v ∨ A u = none) := fun hh => hun ((elimF_none h.wf hA).2 hh)
    refine List.mem_filter.2 ⟨h.nbA a m0 h2 u hu (fun e => hun' (.inr e)), ?_⟩
    simpa using fun e => hun' (.inl e)
  · intro a m hka hm
    obtain ⟨h1, m0, h2, rfl⟩ := (hs a m).1 hm
    rw [h.iso a m0 hka h2]; rfl
  · intro e he
    exact ⟨(h.gone e he).1, (elimF_none h.wf hA).2 (.inr (h.gone e he).2)⟩
  · intro a haN ha
    rcases (elimF_none h.wf hA).1 ha with rfl | ha
    · exact .inr hk
    · exact h.left a haN ha
  · intro t ht a ha
    obtain ⟨m, h1, h2⟩ := h.clq t ht a ha
    have hav : a ≠ v := fun e => by
      have := h.tk t ht a ha
      rw [e, hk] at this; simp at this
    refine ⟨_, (hs a _).2 ⟨hav, m, h1, rfl⟩, fun b hb hne => List.mem_filter.2 ⟨h2 b hb hne, ?_⟩⟩
    have hbv : b ≠ v := fun e => by
      have := h.tk t ht b hb
      rw [e, hk] at this; simp at this
    simpa using hbv
theorem EI.facts (h : EI N near nb keep A tabs E) (hA : A v = some l) : v ∉ E ∧ Asc (sortN l) ∧ v ∉ sortN l ∧ (sortN l).length = l.length := by
  refine ⟨fun hv => ?_, sortN_asc (h.wf.nd v l hA), fun hv => h.wf.ne v l hA v ((sortN_perm l).mem_iff.1 hv) rfl, (sortN_perm l).length_eq⟩
  have := (h.gone v hv).2
  rw [hA] at this; simp at this
theorem EI.mine (h : EI N near nb keep A tabs E) (hA : A v = some l) {t : Tab} (ht : t ∈ tabs) (hv : v ∈ t.1) : ∀ u ∈ t.1, u ∈ allV (sortN l) v := by
  intro u hu
  rw [mem_allV, (sortN_perm l).mem_iff]
  by_cases e : u = v
  · exact .inr e
  · obtain ⟨m, h1, h2⟩ := h.clq t ht v hv
    obtain rfl : l = m := by simpa [hA] using h1
    exact .inl (h2 u hu e)
theorem EI.mineC (h : EI N near nb keep A tabs E) (hA : A v = some l) {C C' : Nat → Bool} (hC : ∀ u ∈ sortN l, C u = C' u) (hv : C v = C' v) : sumT (mineT v tabs) C = sumT (mineT v tabs) C' := by
  refine sumT_congr fun t ht => ?_
  obtain ⟨h1, h2⟩ := List.mem_filter.1 ht
  refine (h.tok t h1).1 _ _ fun u hu => ?_
  rcases mem_allV.1 (h.mine hA h1 (by simpa using h2) u hu) with h3 | rfl
  · exact hC u h3
  · exact hv
theorem EI.restC (h : EI N near nb keep A tabs E) {C C' : Nat → Bool} (hC : ∀ u, u ≠ v → C u = C' u) : sumT (restT v tabs) C = sumT (restT v tabs) C' := by
  refine sumT_congr fun t ht => ?_
  obtain ⟨h1, h2⟩ := List.mem_filter.1 ht
  refine (h.tok t h1).1 _ _ fun u hu => hC u fun e => ?_
  subst e
  simp [hu] at h2
theorem EI.inn (h : EI N near nb keep A tabs E) (hA : A v = some l) (hnear : near.getD v [] = nb v) (hnk : ∀ u ∈ nb v, keep u = true ∧ u < N) (C : Nat → Bool) (hC : ∀ e ∈ E, C e = false) (hCv : C v = false) :
    okV near v (sortN l) (resC (sortN l) C) = (nb v).all (fun u => !C u) ∧ sumT (restT v tabs) C + sumT (mineT v tabs) (resC (sortN l) C) = val nb E C ∧ sumT (restT v tabs) C + sumT (mineT v tabs) (S1 v (resC (sortN l) C)) = val nb E (S1 v C) := by
  obtain ⟨hvE, hasc, hvn, hlen⟩ := h.facts hA
  have e1 : sumT (mineT v tabs) (resC (sortN l) C) = sumT (mineT v tabs) C := h.mineC hA (fun u hu => by simp [resC, hu]) (by simp [resC, hvn, hCv])
  have e2 : sumT (mineT v tabs) (S1 v (resC (sortN l) C)) = sumT (mineT v tabs) (S1 v C) := h.mineC hA (fun u hu => by simp [S1, resC, hu]) (by simp [S1])
  have e3 : sumT (restT v tabs) C = sumT (restT v tabs) (S1 v C) := h.restC fun u hu => by simp [S1, hu]
  refine ⟨?_, ?_, ?_⟩
  · rw [okV, hnear, Bool.eq_iff_iff, decide_eq_true_eq, List.all_eq_true]
    constructor
    · intro hok u hu
      cases hCu : C u with
      | false => rfl
      | true =>
        exfalso
        have hun : A u ≠ none := fun hn => by
          rcases h.left u (hnk u hu).2 hn with h1 | h1
          · rw [hC u h1] at hCu; simp at hCu
          · rw [(hnk u hu).1] at h1; simp at h1
        have hul : u ∈ sortN l := (sortN_perm l).mem_iff.2 (h.nbA v l hA u hu hun)
        exact hok u hul (by simp [resC, hul, hCu]) hu
    · intro hall u hu hcu hm
      have := hall u hm
      simp only [resC, hu, decide_true, Bool.true_and] at hcu
      rw [hcu] at this; simp at this
  · rw [e1, ← sumT_split, h.sum C hC]
  · rw [e2, e3, ← sumT_split]
    refine h.sum _ fun e he => ?_
    have : e ≠ v := fun x => hvE (x ▸ he)
    simp [S1, hC e he, this]
theorem EI.stepOK (h : EI N near nb keep A tabs E) (hA : A v = some l) (hnear : near.getD v [] = nb v) (hnk : ∀ u ∈ nb v, keep u = true ∧ u < N) : StepOK N near nb v (sortN l) tabs E := by
  obtain ⟨hvE, hasc, hvn, hlen⟩ := h.facts hA
  refine ⟨hasc, hvn, h.wf.lt hA, by rw [hlen]; exact h.wf.len hA, ?_, fun t ht => ⟨(h.tok t ht).1, h.mine hA ht, (h.tok t ht).2⟩, h.le, h.few, hvE, ?_⟩
  · intro u hu
    obtain ⟨h1, h2, m, h3⟩ := h.wf.all hA u ((sortN_perm l).mem_iff.1 hu)
    exact ⟨h1, fun he => by have := (h.gone u he).2; rw [h3] at this; simp at this⟩
  · intro C hC hCv
    obtain ⟨h1, h2, h3⟩ := h.inn hA hnear hnk C hC hCv
    rw [inV, h1, inB]
    congr 1
    rw [decide_eq_decide]
    omega
theorem EI.step (h : EI N near nb keep A tabs E) (hA : A v = some l) (hk : keep v = true) (hnear : near.getD v [] = nb v) (hnk : ∀ u ∈ nb v, keep u = true ∧ u < N) : EI N near nb keep (elimF A v) (restT v tabs ++ [newT near v (sortN l) tabs]) (v :: E) := by
  obtain ⟨hvE, hasc, hvn, hlen⟩ := h.facts hA
  have hlk : ∀ u ∈ l, keep u = true := fun u hu => by
    obtain ⟨m, h1, h2⟩ := h.wf.sym v l hA u hu
    cases hku : keep u with
    | true => rfl
    | false => rw [h.iso u m hku h1] at h2; simp at h2
  refine ⟨h.wf.elim hA, ?_, ?_, ?_, ?_, List.nodup_cons.2 ⟨hvE, h.nd⟩, ?_, ?_, ?_, ?_, ?_, ?_⟩
  · intro a m hm u hu hun
    obtain ⟨h1, m0, h2, e⟩ := (elimF_some h.wf hA).1 hm
    have hun' : ¬ (u = v ∨ A u = none) := fun hh => hun ((elimF_none h.wf hA).2 hh)
    obtain ⟨m', h3, h4⟩ := elimF_keeps h.wf hA h2 h1 (h.nbA a m0 h2 u hu (fun e => hun' (.inr e))) (fun e => hun' (.inl e))
    rw [hm] at h3
    obtain rfl : m = m' := by simpa using h3
    exact h4
  · intro a m hka hm
    obtain ⟨h1, m0, h2, rfl⟩ := (elimF_some h.wf hA).1 hm
    have hal : a ∉ l := fun hal => by rw [hlk a hal] at hka; simp at hka
    rw [if_neg hal, h.iso a m0 hka h2]; rfl
  · intro e he
    rcases List.mem_cons.1 he with rfl | he
    · exact ⟨h.wf.lt hA, (elimF_none h.wf hA).2 (.inl rfl)⟩
    · exact ⟨(h.gone e he).1, (elimF_none h.wf hA).2 (.inr (h.gone e he).2)⟩
  · intro a haN ha
    rcases (elimF_none h.wf hA).1 ha with rfl | ha
    · exact .inl (.head _)
    · exact (h.left a haN ha).imp (.tail _) id
  · intro t ht
    rcases List.mem_append.1 ht with ht | ht
    · exact h.tok t (List.mem_filter.1 ht).1
    · obtain rfl : t = _ := by simpa using ht
      exact ⟨newT_ok _ _ _ _, by show (sortN l).length ≤ N; rw [hlen]; exact h.wf.len hA⟩
  · intro t ht a ha
    rcases List.mem_append.1 ht with ht | ht
    · obtain ⟨h1, h2⟩ := List.mem_filter.1 ht
      have hvt : v ∉ t.1 := by simpa using h2
      have hav : a ≠ v := fun e => hvt (e ▸ ha)
      obtain ⟨m, h3, h4⟩ := h.clq t h1 a ha
      refine ⟨_, (elimF_some h.wf hA).2 ⟨hav, m, h3, rfl⟩, fun b hb hne => ?_⟩
      have : b ∈ m.filter fun x => x ≠ v := List.mem_filter.2 ⟨h4 b hb hne, by simpa using fun e : b = v => hvt (e ▸ hb)⟩
      split
      · exact mem_addL.2 (.inl this)
      · exact this
    · obtain rfl : t = _ := by simpa using ht
      have ha : a ∈ sortN l := ha
      have hal := (sortN_perm l).mem_iff.1 ha
      obtain ⟨_, hav, m, h3⟩ := h.wf.all hA a hal
      refine ⟨_, (elimF_some h.wf hA).2 ⟨hav, m, h3, rfl⟩, fun b hb hne => ?_⟩
      rw [if_pos hal]
      exact mem_addL.2 (.inr ⟨hb, hne⟩)
  · intro C hC
    obtain ⟨h1, h2, h3⟩ := h.inn hA hnear hnk C (fun e he => hC e (.tail _ he)) (hC v (.head _))
    rw [sumT_append, val]
    have hn : sumT [newT near v (sortN l) tabs] C = newV near v (sortN l) tabs (resC (sortN l) C) := by simp [sumT, newT]
    rw [hn, newV, inV, h1]
    cases hall : (nb v).all fun u => !C u
    · rw [Bool.false_and, if_neg (by simp), if_neg (by simp)]; exact h2
    · rw [Bool.true_and, if_pos rfl]
      by_cases hlt : sumT (mineT v tabs) (resC (sortN l) C) < sumT (mineT v tabs) (S1 v (resC (sortN l) C)) + 1
      · rw [decide_eq_true hlt, if_pos rfl]; omega
      · rw [decide_eq_false hlt, if_neg (by simp)]; omega
  · intro C
    rw [sumT_append, List.length_cons]
    have hn : sumT [newT near v (sortN l) tabs] C = newV near v (sortN l) tabs (resC (sortN l) C) := by simp [sumT, newT]
    rw [hn, newV]
    have e1 : sumT (mineT v tabs) (resC (sortN l) C) = sumT (mineT v tabs) (fun u => C u && decide (u ≠ v)) := h.mineC hA (fun u hu => by
      have : u ≠ v := fun e => hvn (e ▸ hu)
      simp [resC, hu, this]) (by simp [resC, hvn])
    have e2 : sumT (mineT v tabs) (S1 v (resC (sortN l) C)) = sumT (mineT v tabs) (S1 v C) := h.mineC hA (fun u hu => by simp [S1, resC, hu]) (by simp [S1])
    have e3 : sumT (restT v tabs) C = sumT (restT v tabs) (S1 v C) := h.restC fun u hu => by simp [S1, hu]
    have e4 : sumT (restT v tabs) C = sumT (restT v tabs) (fun u => C u && decide (u ≠ v)) := h.restC fun u hu => by simp [hu]
    have l1 := h.le (S1 v C)
    have l2 := h.le (fun u => C u && decide (u ≠ v))
    rw [sumT_split v] at l1 l2
    split <;> omega
  · have h1 := List.length_filter_le (fun t : Tab => !decide (v ∈ t.1)) tabs
    have h2 := h.few
    rw [restT, List.length_append, List.length_singleton, List.length_cons]
    omega
  · intro t ht a ha
    rcases List.mem_append.1 ht with ht | ht
    · exact h.tk t (List.mem_filter.1 ht).1 a ha
    · obtain rfl : t = _ := by simpa using ht
      have ha : a ∈ sortN l := ha
      exact hlk a ((sortN_perm l).mem_iff.1 ha)
theorem EI.run (hnear : ∀ v, v < N → near.getD v [] = nb v) (hnk : ∀ v, v < N → ∀ u ∈ nb v, keep u = true ∧ u < N) : ∀ (k : Nat) (A : Nat → Option (List Nat)) (tabs : List Tab) (E : List Nat), EI N near nb keep A tabs E → GoodT N near nb tabs E ((runS N k A).filter fun p => keep p.1)
  | 0, A, tabs, E, h => trivial
  | k + 1, A, tabs, E, h => by
    cases hf : fewI A N with
    | none => simp [runS, hf, GoodT]
    | some v =>
      obtain ⟨hvN, l, hA⟩ := fewI_some hf
      simp only [runS, hf, hA, Option.getD_some]
      cases hk : keep v with
      | true =>
        rw [List.filter_cons_of_pos (by simpa using hk)]
        exact ⟨h.stepOK hA (hnear v hvN) (hnk v hvN), EI.run hnear hnk k _ _ _ (h.step hA hk (hnear v hvN) (hnk v hvN))⟩
      | false =>
        rw [List.filter_cons_of_neg (by simp [hk])]
        exact EI.run hnear hnk k _ _ _ (h.skip hA hk)
end
/-- all vertices come, each once -/
theorem runS_all {N : Nat} : ∀ (k : Nat) (A : Nat → Option (List Nat)), WF N A → leftN N A ≤ k → ((runS N k A).map Prod.fst).Nodup ∧ ∀ v, v ∈ (runS N k A).map Prod.fst ↔ A v ≠ none
  | 0, A, h, hk => by
    refine ⟨by simp [runS], fun v => ?_⟩
    simp only [runS, List.map_nil, List.not_mem_nil, false_iff, Decidable.not_not]
    have h0 : leftN N A = 0 := by omega
    by_cases hv : v < N
    · have := List.countP_eq_zero.1 h0 v (by simpa using hv)
      simpa using this
    · exact h.out v (by omega)
  | k + 1, A, h, hk => by
    cases hf : fewI A N with
    | none =>
      refine ⟨by simp [runS, hf], fun v => ?_⟩
      simp only [runS, hf, List.map_nil, List.not_mem_nil, false_iff, Decidable.not_not]
      by_cases hv : v < N
      · exact fewI_none hf v hv
      · exact h.out v (by omega)
    | some x =>
      obtain ⟨hxN, l, hA⟩ := fewI_some hf
      have h2 := leftN_elim h hA
      obtain ⟨i1, i2⟩ := runS_all k (elimF A x) (h.elim hA) (by omega)
      simp only [runS, hf, hA, Option.getD_some, List.map_cons]
      refine ⟨List.nodup_cons.2 ⟨fun hx => (i2 x).1 hx ((elimF_none h hA).2 (.inl rfl)), i1⟩, fun v => ?_⟩
      rw [List.mem_cons, i2]
      constructor
      · rintro (rfl | h3)
        · simp [hA]
        · exact fun e => h3 ((elimF_none h hA).2 (.inr e))
      · intro h3
        by_cases e : v = x
        · exact .inl e
        · refine .inr fun h4 => ?_
          rcases (elimF_none h hA).1 h4 with h5 | h5
          · exact e h5
          · exact h3 h5
end Fil
end
section
set_option linter.unusedVariables false
namespace Go.Sl
open Go Go.RowKit Fil
section
variable {P : Program} {w0 : World} {S0 : FS} {n : Nat} {F : List (Nat × Value)} {L Lr Ks K : List HP} {v : Value} {R : Act → World → Prop}
theorem St.bundle {w : World} (M : List HP) (h : St w0 S0 (M ++ L) w) : St w0 S0 (starHP M :: L) w := by
  obtain ⟨S, hm, hl⟩ := h
  obtain ⟨S1, S2, h1, h2, hd, ha, hb⟩ := sats_split hl
  exact ⟨S, hm, S1, S2, h1, h2, hd, ha, hb⟩
theorem c_bundle (M : List HP) (h : Reach w0 S0 n F (starHP M :: L) R) : Reach w0 S0 n F (M ++ L) R := h.conv fun _ hs => hs.bundle M
theorem sats_kid {w : World} {A : HP} {S : FS} (h : sats L S w) (hL : starHP Ks ∈ L) (hK : A ∈ Ks) : A.sat S w := sats_mem (sats_mem h hL) hK
theorem sats_kid2 {w : World} {A : HP} {S : FS} (h : sats L S w) (hL : starHP Ks ∈ L) (hK : starHP K ∈ Ks) (hA : A ∈ K) : A.sat S w := sats_mem (sats_kid h hL hK) hA
theorem St.kid2 {w : World} {A : HP} (h : St w0 S0 L w) (hL : starHP Ks ∈ L) (hK : starHP K ∈ Ks) (hA : A ∈ K) : ∃ S, A.sat S w := by
  obtain ⟨S, _, hl⟩ := h
  exact ⟨S, sats_kid2 hl hL hK hA⟩
theorem rb_kid2 {w : World} {b : Nat} {t : TypeId} {cs : List Value} (h : St w0 S0 L w) (hL : starHP Ks ∈ L) (hK : starHP K ∈ Ks) (hA : boxHP b t cs ∈ K) : RB w No b t cs := by
  obtain ⟨S, hsat⟩ := h.kid2 hL hK hA
  intro w' S' hm
  exact (hm.below.block _ (Array.getElem?_eq_some_iff.1 hsat.2).1).trans hsat.2
theorem ro_kid2 {w : World} {e : TypeId} {sz m : Nat} {ys : List Value} (h : St w0 S0 L w) (hL : starHP Ks ∈ L) (hK : starHP K ∈ Ks) (hA : rowHP v e sz m ys ∈ K) : RO w No v ys := by
  obtain ⟨S, hsat⟩ := h.kid2 hL hK hA
  exact RO.of_rd (rowHP_rd hsat)
theorem know_kid2 {e : TypeId} {sz m : Nat} {ys : List Value} (hL : starHP Ks ∈ L) (hK : starHP K ∈ Ks) (hA : rowHP v e sz m ys ∈ K) (h : Shp v m → Reach w0 S0 n F L R) : Reach w0 S0 n F L R := by
  intro a w hf hs
  obtain ⟨S, hsat⟩ := hs.kid2 hL hK hA
  exact h (rowHP_shp hsat) a w hf hs
theorem Lent.ro_kid2 {w : World} {S : FS} {L0 : List HP} {e : TypeId} {sz m : Nat} {ys : List Value} (h : Lent w0 S0 L0 Lr S w) (hL : starHP Ks ∈ Lr) (hK : starHP K ∈ Ks) (hA : rowHP v e sz m ys ∈ K) : RO w S v ys := by
  intro w' S' hm
  obtain ⟨Sr, hr, hd⟩ := h.rest
  have := HP.keep (sats_mem hr hL) hd hm
  exact rowHP_rd (sats_mem (sats_mem this hK) hA)
theorem Lent.shp {w : World} {S : FS} {L0 : List HP} {e : TypeId} {sz m : Nat} {ys : List Value} (h : Lent w0 S0 L0 Lr S w) (hL : rowHP v e sz m ys ∈ Lr) : Shp v m := by
  obtain ⟨Sr, hr, hd⟩ := h.rest
  exact rowHP_shp (sats_mem hr hL)
theorem Lent.shp_kid {w : World} {S : FS} {L0 : List HP} {e : TypeId} {sz m : Nat} {ys : List Value} (h : Lent w0 S0 L0 Lr S w) (hL : starHP Ks ∈ Lr) (hK : rowHP v e sz m ys ∈ Ks) : Shp v m := by
  obtain ⟨Sr, hr, hd⟩ := h.rest
  exact rowHP_shp (sats_kid hr hL hK)
theorem Lent.shp_kid2 {w : World} {S : FS} {L0 : List HP} {e : TypeId} {sz m : Nat} {ys : List Value} (h : Lent w0 S0 L0 Lr S w) (hL : starHP Ks ∈ Lr) (hK : starHP K ∈ Ks) (hA : rowHP v e sz m ys ∈ K) : Shp v m := by
  obtain ⟨Sr, hr, hd⟩ := h.rest
  exact rowHP_shp (sats_kid2 hr hL hK hA)
theorem Lent.rb_own {w : World} {S : FS} {L0 : List HP} {b : Nat} {t : TypeId} {cs : List Value} (h : Lent w0 S0 L0 Lr S w) (hL : boxHP b t cs ∈ Lr) : RB w S b t cs := by
  intro w' S' hm
  obtain ⟨Sr, hr, hd⟩ := h.rest
  exact (HP.keep (sats_mem hr hL) hd hm).2
theorem Lent.ros {w : World} {S : FS} {L0 : List HP} {e : TypeId} {m : Nat} {hs : List Value} {ls : List (List Nat)} (h : Lent w0 S0 L0 Lr S w) (hL : rowHP v e 1 m hs ∈ Lr) (hm : m = ls.length) (hK : starHP (kids rowN hs ls) ∈ Lr) : ROs w S v hs ls := by
  obtain ⟨Sr, hr, hd⟩ := h.rest
  have hl : hs.length = m := by have := (sats_mem hr hL).1; omega
  refine ⟨hm ▸ h.shp hL, by omega, h.ro_own hL, fun i x l h1 h2 => ?_⟩
  have hk := kids_mem (f := rowN) h1 h2
  exact ⟨h.shp_kid hK hk, h.ro_kid hK hk⟩
end
end Go.Sl
namespace Fil
def dsT (near : List (List Nat)) : List Tab → List (Nat × List Nat) → List (List Nat × List Bool)
  | _, [] => []
  | tabs, p :: l => (bestL (newT near p.1 p.2 tabs), inL near p.1 p.2 tabs) :: dsT near (restT p.1 tabs ++ [newT near p.1 p.2 tabs]) l
theorem dsT_snoc (near : List (List Nat)) (p : Nat × List Nat) : ∀ (tabs : List Tab) (l : List (Nat × List Nat)), dsT near tabs (l ++ [p]) = dsT near tabs l ++ [(bestL (newT near p.1 p.2 (tabsT near tabs l)), inL near p.1 p.2 (tabsT near tabs l))]
  | _, [] => rfl
  | tabs, q :: l => by
    rw [List.cons_append, dsT, dsT_snoc near p _ l]; rfl
theorem dsT_length (near : List (List Nat)) : ∀ (tabs : List Tab) (l : List (Nat × List Nat)), (dsT near tabs l).length = l.length
  | _, [] => rfl
  | tabs, q :: l => by rw [dsT, List.length_cons, dsT_length near _ l, List.length_cons]
theorem dsT_get (near : List (List Nat)) (p : Nat × List Nat) (l2 : List (Nat × List Nat)) : ∀ (tabs : List Tab) (l : List (Nat × List Nat)), (dsT near tabs (l ++ p :: l2))[l.length]? = some (bestL (newT near p.1 p.2 (tabsT near tabs l)), inL near p.1 p.2 (tabsT near tabs l))
  | _, [] => rfl
  | tabs, q :: l => by
    rw [List.cons_append, dsT, List.length_cons, List.getElem?_cons_succ, dsT_get near p l2 _ l]; rfl
end Fil
namespace Go.Proofs.Ytkekpgkacjpjnaa
open Go Go.RowKit Go.Sl Fil
def poolK (x : Value × Nat × Value) (d : List Nat × List Bool) : HP := starHP [rowHP x.1 3 1 d.1.length (nV d.1), boxHP x.2.1 35 [x.2.2], rowHP x.2.2 4 1 d.2.length (bV d.2)]
def fdV (x : Value × Nat × Value) : Value := .func (.func 84) #[] #[.pointer (some ⟨x.2.1, 0, none⟩)]
structure TInv (ho : List Value) (T : List (Nat × List Nat)) (pool : List (Value × Nat × Value)) (ds : List (List Nat × List Bool)) (tv : List (Value × Value)) (tabs : List Tab) : Prop where
  len : tv.length = tabs.length
  at' : ∀ (k : Nat) h t, tv[k]? = some h → tabs[k]? = some t → (∃ q : Nat, ho[q]? = some h.1 ∧ (T.map Prod.snd)[q]? = some t.1) ∧ ∃ (j : Nat) (x : Value × Nat × Value) (d : List Nat × List Bool), pool[j]? = some x ∧ ds[j]? = some d ∧ x.1 = h.2 ∧ d.1 = bestL t
theorem TInv.ro {w0 w : World} {S0 S : FS} {L0 Lr : List HP} {ho : List Value} {T : List (Nat × List Nat)} {pool : List (Value × Nat × Value)} {ds : List (List Nat × List Bool)} {tv : List (Value × Value)} {tabs : List Tab} (hT : TInv ho T pool ds tv tabs) (h : Lent w0 S0 L0 Lr S w) (h1 : starHP (kids rowN ho (T.map Prod.snd)) ∈ Lr) (h2 : starHP (List.zipWith poolK pool ds) ∈ Lr) : TabRO w S tv tabs := by
  refine ⟨hT.len, fun i a t e1 e2 => ?_⟩
  obtain ⟨⟨q, q1, q2⟩, j, x, d, j1, j2, j3, j4⟩ := hT.at' i a t e1 e2
  have k1 := kids_mem (f := rowN) q1 q2
  have k2 : poolK x d ∈ List.zipWith poolK pool ds := List.mem_of_getElem? (i := j) (by rw [List.getElem?_zipWith, j1, j2])
  have hl : d.1.length = 2 ^ t.1.length := by rw [j4, bestL_length]
  refine ⟨h.shp_kid h1 k1, h.ro_kid h1 k1, ?_, ?_⟩
  · rw [← j3, ← hl]; exact h.shp_kid2 h2 k2 (.head _)
  · rw [← j3, ← j4]; exact h.ro_kid2 h2 k2 (.head _)
theorem TInv.step {ho : List Value} {T : List (Nat × List Nat)} {pool : List (Value × Nat × Value)} {ds : List (List Nat × List Bool)} {tv : List (Value × Value)} {tabs : List Tab} (hT : TInv ho T pool ds tv tabs) {k v : Nat} {nr : List Nat} {hx : Value} (hk : T[k]? = some (v, nr)) (hh : ho[k]? = some hx) (near : List (List Nat)) (x : Value × Nat × Value) (il : List Bool) (hp : pool.length = ds.length) :
    TInv ho T (pool ++ [x]) (ds ++ [(bestL (newT near v nr tabs), il)]) (restV v tv tabs ++ [(hx, x.1)]) (restT v tabs ++ [newT near v nr tabs]) := by
  have hlen := restV_length (v := v) hT.len
  refine ⟨by simp [hlen], fun i a t e1 e2 => ?_⟩
  have hz := zip_filter (fun t : Tab => !decide (v ∈ t.1)) tv tabs hT.len
  by_cases hi : i < (restV v tv tabs).length
  · rw [List.getElem?_append_left hi] at e1
    rw [List.getElem?_append_left (by omega)] at e2
    unfold restT at e2
    rw [← hz] at e2
    unfold restV at e1
    rw [List.getElem?_map, Option.map_eq_some_iff] at e1 e2
    obtain ⟨q1, f1, rfl⟩ := e1
    obtain ⟨q2, f2, rfl⟩ := e2
    rw [f1] at f2
    obtain rfl : q1 = q2 := Option.some.inj f2
    obtain ⟨hm, _⟩ := List.mem_filter.1 (List.mem_of_getElem? f1)
    obtain ⟨c, hc⟩ := List.getElem?_of_mem hm
    rw [List.getElem?_zip_eq_some] at hc
    obtain ⟨g1, j, y, d, j1, j2, j3, j4⟩ := hT.at' c _ _ hc.1 hc.2
    exact ⟨g1, j, y, d, by rw [List.getElem?_append_left (List.getElem?_eq_some_iff.1 j1).1]; exact j1, by rw [List.getElem?_append_left (List.getElem?_eq_some_iff.1 j2).1]; exact j2, j3, j4⟩
  · rw [List.getElem?_append_right (by omega)] at e1
    rw [List.getElem?_append_right (by omega), ← hlen] at e2
    have hi0 : i - (restV v tv tabs).length = 0 := by
      have := (List.getElem?_eq_some_iff.1 e1).1
      simp at this; omega
    rw [hi0] at e1 e2
    obtain rfl : (hx, x.1) = a := by simpa using e1
    obtain rfl : newT near v nr tabs = t := by simpa using e2
    exact ⟨⟨k, hh, by simp [hk, newT]⟩, pool.length, x, (bestL (newT near v nr tabs), il), by simp, by rw [hp]; simp, rfl, rfl⟩
end Go.Proofs.Ytkekpgkacjpjnaa
end
section
namespace Go.Proofs.Ytkekpgkacjpjnaa
open Go.RowKit Go.Sl Fil
set_option maxRecDepth 100000
set_option maxHeartbeats 8000000
set_option linter.unusedVariables false
set_option linter.unusedSimpArgs false
attribute [local irreducible] Code.wp wpList bodyPost wpQuiet Exit.then Exit.inBlock Post wpAnyH wpOp
theorem back1_ok (b : Nat) (v : Value) (vs : List Nat) (hs : List Value) (w : World) (S : FS) (hb : RB w S b 70 [v]) (hsh : Shp v vs.length) (hl : hs.length = vs.length) (hr : RO w S v (stV vs hs)) (hN : vs.length ≤ 1048576) :
    IterOK Try.prog 85 [.pointer (some ⟨b, 0, none⟩)] vs.length (fun i => [.int .i64 ((vs.length : Int) - 1 - (i : Int)), .agg #[.int .i64 ((vs.getD (vs.length - 1 - i) 0 : Nat) : Int), hs.getD (vs.length - 1 - i) undef]]) w S := by
  intro l LL hy M hM hsat
  refine enter (vs := [_, _]) Try.func85 rfl Try.ntmps85 rfl hsat ?_
  repeat' first
    | refine k_then ?_
    | refine c_seq ?_
    | refine c_region ?_
    | refine s_nil ?_
    | refine s_assign (by exact rfl) (by exact rfl) ?_
    | refine s_sub (by exact rfl) (by exact rfl) (by exact rfl) (by omega) ?_
    | refine s_len (by exact rfl) (by exact rfl) (by assumption) ?_
    | refine s_ld_rb (by exact rfl) (by exact rfl) (by assumption) (by exact rfl) ?_
    | refine c_block ?_
  refine c_loop (fun x : Nat × List HP => x.1 ≤ vs.length ∧ LL x.1 x.2) (fun x => [(0, .func (.yield l) #[] #[]), (1, .pointer (some ⟨b, 0, none⟩)), (3, .int .i64 ((vs.length : Int) - 1 - (x.1 : Int)))]) (fun x => x.2) (fun x => vs.length - x.1) (0, M) (List.replicate M.length 0) ⟨by simp, hM⟩ (pick_id M) ⟨rfl, rfl, by simp [fget], trivial⟩ ?_
  clear hM hsat
  rintro ⟨i, M⟩ ⟨hi, hM⟩
  dsimp only at hi hM ⊢
  by_cases hil : i < vs.length
  · generalize hreg : Code.region 3 _ _ = creg
    repeat' first
      | refine k_then ?_
      | refine c_seq ?_
      | refine c_region ?_
      | refine s_nil ?_
      | refine s_move (by exact rfl) (by exact rfl) ?_
      | refine s_geq (by exact rfl) (by exact rfl) (by exact rfl) ?_
      | refine c_block ?_
      | refine c_skip ?_
      | (refine c_cond_p (by exact rfl) (fun h => ?_) (fun h => ?_) <;> try (exfalso; omega))
    subst hreg
    have hj : vs.length - 1 - i < vs.length := by omega
    obtain ⟨x, hx⟩ : ∃ x, vs[vs.length - 1 - i]? = some x := ⟨_, List.getElem?_eq_getElem hj⟩
    obtain ⟨h, hh⟩ : ∃ h, hs[vs.length - 1 - i]? = some h := ⟨_, List.getElem?_eq_getElem (by omega)⟩
    have hgx : vs.getD (vs.length - 1 - i) 0 = x := by rw [List.getD_eq_getElem?_getD, hx]; rfl
    have hgh : hs.getD (vs.length - 1 - i) undef = h := by rw [List.getD_eq_getElem?_getD, hh]; rfl
    obtain ⟨_, _, hE⟩ := stV_get hx hh
    refine c_region_k 6 (by exact rfl) ?_
    simp only [List.take_succ_cons, List.take_zero, List.drop_succ_cons, List.drop_zero]
    rw [show (vs.length : Int) - 1 - (i : Int) = ((vs.length - 1 - i : Nat) : Int) by omega]
    generalize hjj : vs.length - 1 - i = j at *
    repeat' first
      | refine k_then ?_
      | refine s_nil ?_
      | refine s_move (by exact rfl) (by exact rfl) ?_
      | refine s_idx (by exact rfl) (by exact rfl) (by exact rfl) (by assumption) (by first | assumption | omega) ?_
      | refine s_ldk_ro (by exact rfl) (by exact rfl) (by assumption) (by decide) (by assumption) (by exact rfl) ?_
      | refine s_ld_rb (by exact rfl) (by exact rfl) (by assumption) (by exact rfl) ?_
    refine y_yield (K := LL (i + 1)) (by exact rfl) rfl (vs := [.int .i64 (j : Int), .agg #[.int .i64 (x : Int), h]]) (by exact rfl) (fun W S' hm hs => by
      have := hy i M W S' hil hM hm hs
      dsimp only at this
      rw [hjj, hgx, hgh, show (vs.length : Int) - 1 - (i : Int) = (j : Int) by omega] at this
      exact this) fun M' hM' => ?_
    refine y_rest (by exact rfl) ?_
    repeat' first
      | refine k_then ?_
      | refine c_region ?_
      | refine s_nil ?_
      | refine s_move (by exact rfl) (by exact rfl) ?_
      | refine s_assign (by exact rfl) (by exact rfl) ?_
      | refine s_sub (by exact rfl) (by exact rfl) (by exact rfl) (by omega) ?_
      | refine s_not (by exact rfl) (by exact rfl) ?_
      | refine c_skip ?_
      | refine k_blk ?_
      | refine c_cond_f (by exact rfl) ?_
    refine c_round (i + 1, M') (List.replicate M'.length 0) (pick_id M') ⟨rfl, rfl, by rw [show (vs.length : Int) - 1 - ((i + 1 : Nat) : Int) = (j : Int) - 1 by omega]; rfl, trivial⟩ ⟨by dsimp only; omega, hM'⟩ (by dsimp only; omega)
  · repeat' first
      | refine k_then ?_
      | refine c_seq ?_
      | refine c_region ?_
      | refine s_nil ?_
      | refine s_move (by exact rfl) (by exact rfl) ?_
      | refine s_geq (by exact rfl) (by exact rfl) (by exact rfl) ?_
      | refine c_exit ?_
      | refine k_then_exit ?_
      | refine k_blk_eq ?_
      | (refine c_cond_p (by exact rfl) (fun h => ?_) (fun h => ?_) <;> try (exfalso; omega))
    obtain rfl : i = vs.length := by omega
    refine ret0 (List.replicate M.length 0) rfl (pick_id M) hM
theorem Backward_ok (v : Value) (w : World) (hv : v.oneCell' = true) : Calls Try.prog 72 #[v] w (Post w No fun r L' => ∃ b, r = .func (.func 85) #[] #[.pointer (some ⟨b, 0, none⟩)] ∧ L' = [boxHP b 70 [v]]) := by
  refine enter0 (vs := [_]) Try.func72 rfl Try.ntmps72 rfl ?_
  repeat' first
    | refine k_then ?_
    | refine c_seq ?_
    | refine c_region ?_
    | refine s_nil ?_
    | refine s_assign (by exact rfl) (by exact rfl) ?_
    | refine o_box (by exact rfl) (by exact rfl) (fun b => ?_)
  refine o_mkf [] [.pointer (some ⟨b, 0, none⟩)] (by exact rfl) (by exact rfl) (by exact rfl) ?_
  repeat' first
    | refine k_then ?_
    | refine s_nil ?_
    | refine s_assign (by exact rfl) (by exact rfl) ?_
    | refine c_ret ?_
  rw [one_cells hv]
  refine ret1 [0] rfl rfl rfl ⟨b, rfl, rfl⟩
end Go.Proofs.Ytkekpgkacjpjnaa
end
section
namespace Fil
structure MaxIn (nb : Nat → List Nat) (N : Nat) (keep : Nat → Bool) (out : List Nat) : Prop where
  ind : Ind nb out fun _ => false
  mem : ∀ u ∈ out, u < N ∧ keep u = true
  top : ∀ Y, Ind nb Y (fun _ => false) → (∀ u ∈ Y, u < N ∧ keep u = true) → Y.length ≤ out.length
theorem nearS_lt {n : Int} {es : List E} (hR : RightG n es) {u v : Nat} (h : u ∈ nearS (tn es) v) : u < n.toNat ∧ v < n.toNat ∧ u ≠ v ∧ v ∈ nearS (tn es) u := by
  have hne : ∀ e ∈ tn es, e.1 ≠ e.2 := fun e he => by have := (hR.good.lt e he).1; omega
  have h1 := (mem_nb hne).1 (mem_nearS.1 h)
  rw [mem_nearS, mem_nb hne]
  rcases h1 with h1 | h1
  · have := hR.good.lt _ h1; dsimp only at this
    exact ⟨by omega, by omega, by omega, .inr h1⟩
  · have := hR.good.lt _ h1; dsimp only at this
    exact ⟨by omega, by omega, by omega, .inl h1⟩
structure HInv (ho : List Go.Value) (T l : List (Nat × List Nat)) (hl : List Go.Value) : Prop where
  len : hl.length = l.length
  at' : ∀ (j : Nat) h p, hl[j]? = some h → l[j]? = some p → ∃ q : Nat, ho[q]? = some h ∧ T[q]? = some p
theorem HInv.step {ho : List Go.Value} {T l : List (Nat × List Nat)} {hl : List Go.Value} (h : HInv ho T l hl) {k : Nat} {p : Nat × List Nat} {x : Go.Value} (h1 : T[k]? = some p) (h2 : ho[k]? = some x) : HInv ho T (l ++ [p]) (hl ++ [x]) := by
  have hlen := h.len
  refine ⟨by simp [hlen], fun j y q e1 e2 => ?_⟩
  by_cases hj : j < hl.length
  · rw [List.getElem?_append_left hj] at e1
    rw [List.getElem?_append_left (by omega)] at e2
    exact h.at' j y q e1 e2
  · rw [List.getElem?_append_right (by omega)] at e1
    rw [List.getElem?_append_right (by omega), ← hlen] at e2
    have hj0 : j - hl.length = 0 := by
      have := (List.getElem?_eq_some_iff.1 e1).1
      simp at this; omega
    rw [hj0] at e1 e2
    obtain rfl : x = y := by simpa using e1
    obtain rfl : p = q := by simpa using e2
    exact ⟨k, h2, h1⟩
theorem filter_take {T : List (Nat × List Nat)} {k : Nat} {p : Nat × List Nat} (h : T[k]? = some p) (f : Nat × List Nat → Bool) : (T.take (k + 1)).filter f = (T.take k).filter f ++ (if f p then [p] else []) ∧ T.filter f = (T.take k).filter f ++ ((if f p then [p] else []) ++ (T.drop (k + 1)).filter f) := by
  have h1 : T.take (k + 1) = T.take k ++ [p] := by rw [List.take_add_one, h]; rfl
  have h2 : (T.take (k + 1)).filter f = (T.take k).filter f ++ (if f p then [p] else []) := by
    rw [h1, List.filter_append]
    cases hf : f p <;> simp [hf]
  refine ⟨h2, ?_⟩
  conv => lhs; rw [← List.take_append_drop (k + 1) T]
  rw [List.filter_append, h2, List.append_assoc]
theorem EI.start {n : Int} {es : List E} (hR : RightG n es) (hWF : WF n.toNat (fun v => if v < n.toNat then some (nearS (tn es) v) else none)) (keep : Nat → Bool) (hkeep : ∀ a u, u ∈ nearS (tn es) a → keep u = true) (near : List (List Nat)) :
    EI n.toNat near (nearS (tn es)) keep (fun v => if v < n.toNat then some (nearS (tn es) v) else none) [] [] := by
  refine ⟨hWF, ?_, ?_, by simp, ?_, .nil, by simp, by simp, fun C _ => rfl, fun C => Nat.le_refl _, Nat.le_refl _, by simp⟩
  · intro a m hm u hu _
    split at hm
    · obtain rfl : _ = m := by simpa using hm
      exact hu
    · simp at hm
  · intro a m hka hm
    split at hm
    · obtain rfl : _ = m := by simpa using hm
      refine List.eq_nil_iff_forall_not_mem.2 fun u hu => ?_
      rw [hkeep u a (nearS_lt hR hu).2.2.2] at hka
      simp at hka
    · simp at hm
  · intro a ha hn
    rw [if_pos ha] at hn; simp at hn
end Fil
namespace Go.Proofs.Ytkekpgkacjpjnaa
open Go Go.RowKit Go.Sl Fil
set_option maxRecDepth 100000
set_option maxHeartbeats 8000000
set_option linter.unusedVariables false
set_option linter.unusedSimpArgs false
attribute [local irreducible] Code.wp wpList bodyPost wpQuiet Exit.then Exit.inBlock Post wpAnyH wpOp
theorem poolK_eq (near : List (List Nat)) (x : Nat) (nr : List Nat) (tabs : List Tab) (vb vi : Value) (bi : Nat) : starHP [rowHP vb 3 1 (2 ^ nr.length) (nV (bestL (newT near x nr tabs))), boxHP bi 35 [vi], rowHP vi 4 1 (2 ^ nr.length) (bV (inL near x nr tabs))] = poolK (vb, bi, vi) (bestL (newT near x nr tabs), inL near x nr tabs) := by
  have h1 : (bestL (newT near x nr tabs)).length = 2 ^ nr.length := bestL_length _
  have h2 : (inL near x nr tabs).length = 2 ^ nr.length := by simp [inL]
  simp only [poolK, h1, h2]
structure PX where
  k : Nat
  hl : List Value
  vl : Value
  tv : List (Value × Value)
  vt : Value
  vd : Value
  pool : List (Value × Nat × Value)
theorem piece_ok (n : Int) (v vk : Value) (es : List E) (ks : List Bool) (w : World) (hs : Shp v es.length) (hr : RO w No v (esV es)) (hR : RightG n es) (h39 : n ≤ 39) (hsk : Shp vk ks.length) (hrk : RO w No vk (bV ks)) (hkl : ks.length = n.toNat) (hkeep : ∀ a u, u ∈ nearS (tn es) a → ks.getD u false = true) :
    Calls Try.prog 51 #[.agg #[.int .i64 n, v], vk] w (Post w No fun r L' => ∃ out, L' = [rowHP r 3 1 out.length (nV out)] ∧ MaxIn (nearS (tn es)) n.toNat (fun u => ks.getD u false) out) := by
  have hlo := hR.lo
  have hhi := hR.hi
  have hnd : ∀ u, (nearS (tn es) u).Nodup := fun u => (List.mergeSort_perm _ _).nodup_iff.2 (nb_nodup hR u)
  have hWF := WF.near hR hnd
  refine enterM0 (vs := [_, _]) Try.func51 rfl Try.ntmps51 rfl ?_
  repeat' first
    | refine k_then ?_
    | refine c_seq ?_
    | refine c_region ?_
    | refine s_nil ?_
    | refine s_ldk_box (by exact rfl) (by exact rfl) (by exact .tail _ (.head _)) (by exact rfl) (by exact rfl) ?_
    | refine o_box (by exact rfl) (by exact rfl) (fun b => ?_)
    | refine o_alloc (by exact rfl) (fun b => ?_)
  revert b; intro b4
  revert b; intro b2
  refine o_call (by exact rfl) (by exact rfl) (fun w h => Near_ok n v es w hs (ro_old h hr) hR) ?_
  rintro vn _ ⟨hn, hnl, rfl⟩
  refine know_row (v := vn) (.head _) fun hvn _ => ?_
  skip
  refine o_build (cs := [vn, .slice none 0 0, .slice none 0 0]) [(0, vn, [vn])] (by exact rfl) (by exact rfl) (by
    intro q hq
    obtain rfl : q = _ := by simpa using hq
    exact one_cells hvn.one) (by exact rfl) ?_
  repeat' first
    | refine o_box (by exact rfl) (by exact rfl) (fun b => ?_)
    | refine o_alloc (by exact rfl) (fun b => ?_)
  revert b; intro b5
  revert b; intro bs
  refine o_st_box (i := 0) (by exact rfl) (by exact rfl) (by exact rfl) rfl (by simp [Value.cells]) ?_
  repeat' first
    | refine k_then ?_
    | refine c_seq ?_
    | refine c_region ?_
    | refine s_nil ?_
    | refine s_assign (by exact rfl) (by exact rfl) ?_
    | refine s_ldk_box (by exact rfl) (by exact rfl) (by exact .tail _ (.tail _ (.tail _ (.tail _ (.tail _ (.head _)))))) (by exact rfl) (by exact rfl) ?_
  refine o_call (by exact rfl) (by exact rfl) (fun w h => steps_ok n v es w hs (ro_old h hr) hR) ?_
  rintro _ _ ⟨vs, ho, T, hT, rfl, hol, rfl⟩
  have hnear : ∀ v, v < n.toNat → ((List.range n.toNat).map (nearS (tn es))).getD v [] = nearS (tn es) v := fun v hv => nearL_get hv
  have hnl2 : ((List.range n.toNat).map (nearS (tn es))).length = n.toNat := by simp
  have hG := EI.run (near := (List.range n.toNat).map (nearS (tn es))) (nb := nearS (tn es)) (keep := fun u => ks.getD u false) hnear (fun v _ u hu => ⟨hkeep v u hu, (nearS_lt hR hu).1⟩) n.toNat _ [] [] (EI.start hR hWF (fun u => ks.getD u false) hkeep _)
  have hlft : leftN n.toNat (fun v => if v < n.toNat then some (nearS (tn es) v) else none) ≤ n.toNat := by
    have := List.countP_le_length (l := List.range n.toNat) (p := fun v => ((fun v => if v < n.toNat then some (nearS (tn es) v) else none) v : Option (List Nat)).isSome)
    rwa [List.length_range] at this
  obtain ⟨hTn, hTm⟩ := runS_all _ _ hWF hlft
  rw [← hT] at hG hTn hTm
  have hTm : ∀ v, v ∈ T.map Prod.fst ↔ v < n.toNat := fun v => by
    rw [hTm]
    by_cases hv : v < n.toNat <;> simp [hv]
  have hTl : T.length ≤ n.toNat := by
    have := nodup_length hTn fun u hu => (hTm u).1 hu
    simpa using this
  generalize (List.range n.toNat).map (nearS (tn es)) = near at *
  generalize hkf : (fun u => ks.getD u false) = kf at *
  have hkfv : ∀ v, ks.getD v false = kf v := fun v => by rw [← hkf]
  simp only [hkfv] at hG
  clear hT hlft hWF
  refine know_row (v := vs) (.head _) fun hvs _ => ?_
  repeat' first
    | refine k_then ?_
    | refine c_seq ?_
    | refine c_region ?_
    | refine s_nil ?_
    | refine s_move (by exact rfl) (by exact rfl) ?_
    | refine s_assign (by exact rfl) (by exact rfl) ?_
    | refine s_len (by exact rfl) (by exact rfl) (by assumption) ?_
    | refine s_extract (by exact rfl) (by exact rfl) (by exact rfl) ?_
    | refine c_block ?_
  refine c_star0 ?_
  refine c_nil 74 2 ?_
  refine c_nil 90 1 ?_
  refine c_nil 111 2 ?_
  refine c_loop (fun x : PX => x.k ≤ T.length ∧ HInv ho T ((T.take x.k).filter fun p => kf p.1) x.hl ∧ x.pool.length = ((T.take x.k).filter fun p => kf p.1).length ∧ TInv ho T x.pool (dsT near [] ((T.take x.k).filter fun p => kf p.1)) x.tv (tabsT near [] ((T.take x.k).filter fun p => kf p.1)))
    (fun x => [(1, vk), (4, .pointer (some ⟨b4, 0, none⟩)), (5, .pointer (some ⟨b5, 0, none⟩)), (6, x.vl), (26, vs), (27, .int .i64 (T.length : Int)), (28, .int .i64 (x.k : Int))])
    (fun x => [boxHP b5 96 [.pointer (some ⟨bs, 0, none⟩)], rowHP vs 74 2 T.length (stV (T.map Prod.fst) ho), boxHP bs 100 [vn, x.vt, x.vd], rowHP x.vt 111 2 x.tv.length (tabV x.tv), rowHP x.vd 90 1 (x.pool.map fdV).length (x.pool.map fdV), starHP (List.zipWith poolK x.pool (dsT near [] ((T.take x.k).filter fun p => kf p.1))), rowHP x.vl 74 2 ((T.take x.k).filter fun p => kf p.1).length (stV (((T.take x.k).filter fun p => kf p.1).map Prod.fst) x.hl), starHP (kids rowN ho (T.map Prod.snd)), rowHP vn 27 1 n.toNat hn, starHP (kids rowN hn near), boxHP b4 27 [.slice none 0 0]]) (fun x => T.length - x.k) ⟨0, [], .slice none 0 0, [], .slice none 0 0, .slice none 0 0, []⟩ [6, 4, 5, 0, 0, 1, 0, 0, 0, 0, 0] ⟨Nat.zero_le _, ⟨rfl, by simp⟩, rfl, ⟨rfl, by simp⟩⟩ (by exact rfl) ⟨rfl, rfl, rfl, rfl, rfl, rfl, rfl, trivial⟩ ?_
  rintro ⟨k, hl, vl, tv, vt, vd, pool⟩ ⟨hk, hH, hpl, hTI⟩
  dsimp only at hk hH hpl hTI ⊢
  by_cases hkl : k < T.length
  · obtain ⟨⟨x, nr⟩, hp⟩ : ∃ p, T[k]? = some p := ⟨_, List.getElem?_eq_getElem hkl⟩
    obtain ⟨hx, hhx⟩ : ∃ h, ho[k]? = some h := ⟨_, List.getElem?_eq_getElem (by omega)⟩
    obtain ⟨_, _, hE⟩ := stV_get (vs := T.map Prod.fst) (hs := ho) (i := k) (v := x) (h := hx) (by simp [hp]) hhx
    have hxN : x < n.toNat := (hTm x).1 (List.mem_map.2 ⟨(x, nr), List.mem_of_getElem? hp, rfl⟩)
    have hK : rowHP hx 3 1 nr.length (nV nr) ∈ kids rowN ho (T.map Prod.snd) := kids_mem (f := rowN) (l := nr) hhx (by simp [hp])
    refine know_kid (Ks := kids rowN ho (T.map Prod.snd)) (.tail _ (.tail _ (.tail _ (.tail _ (.tail _ (.tail _ (.tail _ (.head _)))))))) hK fun hhx1 _ => ?_
    obtain ⟨hf1, hf2⟩ := filter_take hp (fun p => kf p.1)
    have hkv := bV_get (l := ks) (k := x) (by omega)
    rw [hkfv] at hkv
    repeat' first
      | refine k_then ?_
      | refine c_seq ?_
      | refine c_region ?_
      | refine s_nil ?_
      | refine s_lss (by exact rfl) (by exact rfl) (by exact rfl) ?_
      | refine s_idx (by exact rfl) (by exact rfl) (by exact rfl) (by assumption) (by first | assumption | omega) ?_
      | refine s_ldk_row (by exact rfl) (by exact rfl) (by exact .tail _ (.head _)) (by decide) (by assumption) (by exact rfl) ?_
      | refine o_alloc (by exact rfl) (fun b => ?_)
      | refine c_block ?_
      | refine c_skip ?_
      | (refine c_cond_p (by exact rfl) (fun h => ?_) (fun h => ?_) <;> try (exfalso; omega))
    refine o_stk_box (i := 0) (us := [.int .i64 (x : Int), hx]) (by exact rfl) (by exact rfl) (by exact rfl) (by exact rfl) (by exact rfl) (by
      intro u hu
      simp only [List.mem_cons, List.not_mem_nil, or_false] at hu
      rcases hu with rfl | rfl
      · rfl
      · exact hhx1.one) (by simp [Value.cells]) ?_
    repeat' first
      | refine k_then ?_
      | refine c_seq ?_
      | refine c_region ?_
      | refine s_nil ?_
      | refine s_move (by exact rfl) (by exact rfl) ?_
      | refine s_fa (by exact rfl) (by exact rfl) ?_
      | refine s_ld_box (by exact rfl) (by exact rfl) (by exact .head _) (by exact rfl) ?_
      | refine s_idx (by exact rfl) (by exact rfl) (by exact rfl) (by assumption) (by first | assumption | omega) ?_
      | refine s_ld_ro (by exact rfl) (by exact rfl) (by assumption) (by assumption) ?_
    cases hkx : kf x
    · simp only [hkx, Bool.false_eq_true, if_false, List.append_nil] at hf1
      rw [hkx] at hkv
      repeat' first
        | refine k_then ?_
        | refine c_region ?_
        | refine s_nil ?_
        | refine s_move (by exact rfl) (by exact rfl) ?_
        | refine s_add (by exact rfl) (by exact rfl) (by exact rfl) (by omega) ?_
        | refine c_skip ?_
        | refine k_blk ?_
        | refine c_cond_f (by exact rfl) ?_
      refine c_round ⟨k + 1, hl, vl, tv, vt, vd, pool⟩ [1, 1, 1, 1, 1, 1, 1, 1, 1, 1, 1] (by dsimp only; rw [hf1]; exact rfl) ⟨rfl, rfl, rfl, rfl, rfl, rfl, rfl, trivial⟩ ⟨by dsimp only; omega, by dsimp only; rw [hf1]; exact ⟨hH, hpl, hTI⟩⟩ (by dsimp only; omega)
    · simp only [hkx, if_true] at hf1 hf2
      rw [hkx] at hkv
      generalize hlk : (T.take k).filter (fun p => kf p.1) = lk at *
      have hlkl : lk.length ≤ k := by
        rw [← hlk]
        exact Nat.le_trans (List.length_filter_le _ _) (by rw [List.length_take]; omega)
      have hOK := (hf2 ▸ hG : GoodT n.toNat near (nearS (tn es)) [] [] (lk ++ (x, nr) :: (T.drop (k + 1)).filter fun p => kf p.1)).at
      rw [List.append_nil] at hOK
      have hEl : ((lk.map Prod.fst).reverse).length = lk.length := by simp
      have htl := hTI.len
      have hfew := hOK.few
      repeat' first
        | refine c_seq ?_
        | refine c_region ?_
        | refine s_move (by exact rfl) (by exact rfl) ?_
        | refine s_ldk_box (by exact rfl) (by exact rfl) (by exact .head _) (by exact rfl) (by exact rfl) ?_
        | refine c_cond_t (by exact rfl) ?_
      refine o_mk [.agg #[.int .i64 (x : Int), hx]] (by exact rfl) (by exact rfl) rfl ?_ ?_ (by simp) fun va hva => ?_
      · simp [Value.cells]
      · simp
      skip
      refine o_append_row (i := 8) (by exact rfl) (by exact rfl) (by exact rfl) (by exact rfl) (by exact .head _) (by exact rfl) (by
        intro u hu
        simp only [List.flatMap_cons, List.flatMap_nil, List.append_nil, Value.cells, List.mem_cons, List.not_mem_nil, or_false] at hu
        rcases hu with rfl | rfl
        · rfl
        · exact hhx1.one) (by omega) fun vl2 hvl2 => ?_
      repeat' first
        | refine k_then ?_
        | refine c_region ?_
        | refine s_nil ?_
        | refine s_assign (by exact rfl) (by exact rfl) ?_
        | refine s_ld_box (by exact rfl) (by exact rfl) (by exact .tail _ (.tail _ (.head _))) (by exact rfl) ?_
        | refine s_ldk_box (by exact rfl) (by exact rfl) (by exact .tail _ (.head _)) (by exact rfl) (by exact rfl) ?_
      refine c_pick [4, 4, 4, 2, 2, 2, 2, 2, 2, 2, 2] (by exact rfl) ?_
      refine s_lend (vs := [_, _]) [boxHP bs 100 [vn, vt, vd], rowHP vt 111 2 tv.length (tabV tv), rowHP vd 90 1 (pool.map fdV).length (pool.map fdV)] _ (by exact rfl) (by exact rfl) (by exact rfl) (fun w S h => eliminate_ok bs vn vt vd hx hn near x nr tv (tabsT near [] lk) (pool.map fdV) w S h.own hhx1 (h.ro_kid (.tail _ (.tail _ (.tail _ (.tail _ (.head _))))) hK) (h.ros (.tail _ (.tail _ (.tail _ (.tail _ (.tail _ (.head _)))))) hnl2.symm (.tail _ (.tail _ (.tail _ (.tail _ (.tail _ (.tail _ (.head _)))))))) (hTI.ro h (.tail _ (.tail _ (.tail _ (.tail _ (.head _))))) (.tail _ (.tail _ (.head _)))) (by omega) (by omega) hOK.asc hOK.vn (Nat.le_trans hOK.small (by omega)) (fun t ht => ⟨(hOK.tok t ht).1, (hOK.tok t ht).2.1, by have := (hOK.tok t ht).2.2; omega⟩) (fun C => by have := hOK.sum C; omega) (by omega) (by simp; omega)) ?_
      rintro _ _ ⟨vt2, vd2, vb, vi, bi, rfl⟩
      repeat' first
        | refine k_then ?_
        | refine c_region ?_
        | refine s_nil ?_
        | refine s_move (by exact rfl) (by exact rfl) ?_
        | refine s_add (by exact rfl) (by exact rfl) (by exact rfl) (by omega) ?_
        | refine k_blk ?_
      refine c_pick [3, 3, 3, 0, 0, 0, 0, 0, 0, 0, 0, 0, 0, 0] (by exact rfl) ?_
      refine c_bundle [_, _, _] ?_
      rw [poolK_eq]
      refine c_pushk 5 (by exact rfl) ?_
      refine c_round ⟨k + 1, hl ++ [hx], vl2, restV x tv (tabsT near [] lk) ++ [(hx, vb)], vt2, vd2, pool ++ [(vb, bi, vi)]⟩ [3, 3, 0, 0, 0, 0, 0, 0, 0, 0, 0] ?_ ⟨rfl, rfl, rfl, rfl, rfl, rfl, rfl, trivial⟩ ⟨by dsimp only; omega, ?_⟩ (by dsimp only; omega)
      · dsimp only
        rw [hf1, dsT_snoc, List.zipWith_append (by rw [hpl, dsT_length]), List.map_append, List.map_append, List.map_singleton, List.map_singleton, stV_snoc (by rw [List.length_map]; exact hH.len.symm)]
        simp only [List.length_append, List.length_singleton]
        rfl
      · dsimp only
        rw [hf1]
        refine ⟨hH.step hp hhx, by simp [hpl], ?_⟩
        rw [dsT_snoc, tabsT_snoc]
        exact hTI.step hp hhx near (vb, bi, vi) _ (by rw [hpl, dsT_length])
  · have hkk : k = T.length := by omega
    rw [hkk, List.take_length] at hH hpl hTI
    rw [hkk, List.take_length]
    generalize hlk : T.filter (fun p => kf p.1) = lk at *
    have hlkl : lk.length ≤ T.length := by
      rw [← hlk]
      exact List.length_filter_le _ _
    have hEn : (lk.map Prod.fst).Nodup := by
      rw [← hlk]
      exact hTn.sublist (List.filter_sublist.map _)
    have hEm : ∀ u, u ∈ lk.map Prod.fst ↔ u < n.toNat ∧ kf u = true := fun u => by
      rw [← hTm, ← hlk]
      simp only [List.mem_map, List.mem_filter]
      constructor
      · rintro ⟨p, ⟨h1, h2⟩, rfl⟩; exact ⟨⟨p, h1, rfl⟩, h2⟩
      · rintro ⟨⟨p, h1, rfl⟩, h2⟩; exact ⟨p, ⟨h1, h2⟩, rfl⟩
    clear hkl hk hTI hlk
    refine know_row (v := vl) (.tail _ (.tail _ (.tail _ (.tail _ (.tail _ (.tail _ (.head _))))))) fun hvl _ => ?_
    refine know_row (v := vd) (.tail _ (.tail _ (.tail _ (.tail _ (.head _))))) fun hvd _ => ?_
    repeat' first
      | refine k_then ?_
      | refine c_seq ?_
      | refine c_region ?_
      | refine s_nil ?_
      | refine s_lss (by exact rfl) (by exact rfl) (by exact rfl) ?_
      | refine c_exit ?_
      | refine k_then_exit ?_
      | refine k_blk_eq ?_
      | (refine c_cond_p (by exact rfl) (fun h => ?_) (fun h => ?_) <;> try (exfalso; omega))
    refine o_makeMap (by exact rfl) fun bm => ?_
    repeat' first
      | refine o_alloc (by exact rfl) (fun b => ?_)
    revert b; intro b11
    refine o_st_box (i := 0) (by exact rfl) (by exact rfl) (by exact rfl) rfl (by simp [Value.cells]) ?_
    repeat' first
      | refine k_then ?_
      | refine c_seq ?_
      | refine c_region ?_
      | refine s_nil ?_
      | refine s_move (by exact rfl) (by exact rfl) ?_
    refine o_call (by exact rfl) (by exact rfl) (fun w h => Backward_ok vl w hvl.one) ?_
    rintro _ _ ⟨bq, rfl, rfl⟩
    repeat' first
      | refine k_then ?_
      | refine s_nil ?_
      | refine c_block ?_
    refine c_nil 3 1 ?_
    refine c_pick [2, 2, 12, 0, 1, 2, 3, 3, 4, 0, 2] (by exact rfl) ?_
    have hfl : (lk.map Prod.fst).length = lk.length := by simp
    have hpn := pickE_ind (nb := nearS (tn es)) (fun u v h => (nearS_lt hR h).2.2.2) (fun v h => (nearS_lt hR h).2.2.1 rfl) (lk.map Prod.fst).reverse (fun _ => false) ((List.reverse_perm _).nodup_iff.2 hEn)
    have hpsub := pickE_sub (nearS (tn es)) (lk.map Prod.fst).reverse (fun _ => false)
    have hpl2 : (pickE (nearS (tn es)) (lk.map Prod.fst).reverse (fun _ => false)).length ≤ lk.length := by have := hpsub.length_le; simpa using this
    refine c_range (ps := [48, 49]) 85 [.pointer (some ⟨bq, 0, none⟩)] [_, _, _, _, _, _, _, _, _] [boxHP bq 70 [vl], rowHP vl 74 2 lk.length (stV (lk.map Prod.fst) hl)] (lk.map Prod.fst).length (fun i => [.int .i64 (((lk.map Prod.fst).length : Int) - 1 - (i : Int)), .agg #[.int .i64 (((lk.map Prod.fst).getD ((lk.map Prod.fst).length - 1 - i) 0 : Nat) : Int), hl.getD ((lk.map Prod.fst).length - 1 - i) undef]]) (fun i M => ∃ out vo, i ≤ (lk.map Prod.fst).length ∧ pickE (nearS (tn es)) (lk.map Prod.fst).reverse (fun _ => false) = out ++ pickE (nearS (tn es)) ((lk.map Prod.fst).reverse.drop i) (fun u => decide (u ∈ out)) ∧ (∀ u ∈ out, u ∈ (lk.map Prod.fst).reverse.take i) ∧ M = [boxHP b11 64 [.map (some bm)], mapHP ekI Value.bool okI (.map (some bm)) (setN out), boxHP b4 27 [vo], rowHP vo 3 1 out.length (nV out), boxHP b5 96 [.pointer (some ⟨bs, 0, none⟩)], boxHP bs 100 [vn, vt, vd], rowHP vd 90 1 (pool.map fdV).length (pool.map fdV), starHP (List.zipWith poolK pool (dsT near [] lk)), starHP (kids rowN ho (T.map Prod.snd))]) (by exact rfl) (by exact rfl) (by exact rfl) (fun _ => rfl) (fun w S M h => back1_ok bq vl (lk.map Prod.fst) hl w S (h.rb_own (.head _)) (by rw [hfl]; exact hvl) (by rw [hfl]; exact hH.len) (h.ro_own (.tail _ (.head _))) (by omega)) ⟨[], .slice none 0 0, Nat.zero_le _, by simp, by simp, by exact rfl⟩ ?_ ?_
    · rintro i _ _ W S l D r m hi ⟨out, vo, hile, hpk, hot, rfl⟩ rfl hlent hst
      rw [hfl] at hi hile
      obtain ⟨j, hj⟩ : ∃ j, lk.length - 1 - i = j := ⟨_, rfl⟩
      have hjl : j < lk.length := by omega
      obtain ⟨⟨x, nr⟩, hp⟩ : ∃ p, lk[j]? = some p := ⟨_, List.getElem?_eq_getElem hjl⟩
      obtain ⟨hx, hhx⟩ : ∃ h, hl[j]? = some h := ⟨_, List.getElem?_eq_getElem (by rw [hH.len]; exact hjl)⟩
      obtain ⟨q, hq1, hq2⟩ := hH.at' j hx (x, nr) hhx hp
      have hlsp : lk = lk.take j ++ (x, nr) :: lk.drop (j + 1) := by
        obtain ⟨h1, h2⟩ := List.getElem?_eq_some_iff.1 hp
        conv => lhs; rw [← List.take_append_drop j lk, List.drop_eq_getElem_cons h1, h2]
      have hOK := (hlsp ▸ hG : GoodT n.toNat near (nearS (tn es)) [] [] (lk.take j ++ (x, nr) :: lk.drop (j + 1))).at
      rw [List.append_nil] at hOK
      have hds := dsT_get near (x, nr) (lk.drop (j + 1)) [] (lk.take j)
      rw [← hlsp, List.length_take, Nat.min_eq_left (by omega)] at hds
      dsimp only at hds
      have hEd : (lk.map Prod.fst).reverse.drop i = x :: ((lk.take j).map Prod.fst).reverse ∧ (lk.map Prod.fst).reverse.drop (i + 1) = ((lk.take j).map Prod.fst).reverse ∧ (lk.map Prod.fst).reverse.take (i + 1) = (lk.map Prod.fst).reverse.take i ++ [x] := by
        have e1 : (lk.map Prod.fst).reverse = ((lk.drop (j + 1)).map Prod.fst).reverse ++ x :: ((lk.take j).map Prod.fst).reverse := by
          conv => lhs; rw [hlsp]
          simp
        have e2 : (((lk.drop (j + 1)).map Prod.fst).reverse).length = i := by simp; omega
        rw [e1]
        have f1 : (((lk.drop (j + 1)).map Prod.fst).reverse ++ x :: ((lk.take j).map Prod.fst).reverse).drop i = x :: ((lk.take j).map Prod.fst).reverse := by rw [← e2, List.drop_left]
        refine ⟨f1, ?_, ?_⟩
        · rw [← List.drop_drop, f1]; rfl
        · have f2 : (((lk.drop (j + 1)).map Prod.fst).reverse ++ x :: ((lk.take j).map Prod.fst).reverse)[i]? = some x := by
            have := congrArg (fun l => l[0]?) f1
            simpa using this
          rw [List.take_add_one, f2]; rfl
      obtain ⟨hE1, hE2, hE3⟩ := hEd
      have hEn2 := (List.reverse_perm _).nodup_iff.2 hEn
      rw [← List.take_append_drop i (lk.map Prod.fst).reverse, hE1] at hEn2
      have hdis : ∀ u ∈ out, u ≠ x ∧ u ∉ ((lk.take j).map Prod.fst).reverse := fun u hu => by
        have h3 := (List.nodup_append.1 hEn2).2.2 u (hot u hu)
        exact ⟨h3 x (.head _), fun h4 => h3 u (.tail _ h4) rfl⟩
      have hxo : x ∉ out := fun h => (hdis x h).1 rfl
      have hol2 : out.length ≤ lk.length := by
        rw [hpk, List.length_append] at hpl2; omega
      have hinn := hOK.inn (fun u => decide (u ∈ out)) (fun e he => decide_eq_false fun h => (hdis e h).2 he) (decide_eq_false hxo)
      rw [hE1, pickE] at hpk
      obtain ⟨y, hy⟩ : ∃ y, pool[j]? = some y := ⟨_, List.getElem?_eq_getElem (by omega)⟩
      have hpk2 : poolK y (bestL (newT near x nr (tabsT near [] (lk.take j))), inL near x nr (tabsT near [] (lk.take j))) ∈ List.zipWith poolK pool (dsT near [] lk) := List.mem_of_getElem? (i := j) (by rw [List.getElem?_zipWith, hy, hds])
      have hgx : (lk.map Prod.fst).getD j 0 = x := by rw [List.getD_eq_getElem?_getD, List.getElem?_map, hp]; rfl
      have hgh : hl.getD j undef = hx := by rw [List.getD_eq_getElem?_getD, hhx]; rfl
      rw [hfl, show (lk.length : Int) - 1 - (i : Int) = (j : Int) by omega, hj, hgx, hgh]
      simp only [List.zip_cons_cons, List.zip_nil_left, List.reverse_cons, List.reverse_nil, List.nil_append, List.cons_append]
      have hK : rowHP hx 3 1 nr.length (nV nr) ∈ kids rowN ho (T.map Prod.snd) := kids_mem (f := rowN) (l := nr) hq1 (by simp [hq2])
      refine know_kid (Ks := kids rowN ho (T.map Prod.snd)) (.tail _ (.tail _ (.tail _ (.tail _ (.tail _ (.tail _ (.tail _ (.tail _ (.tail _ (.tail _ (.head _))))))))))) hK fun hhx1 _ => ?_
      repeat' first
        | refine k_then ?_
        | refine s_nil ?_
        | refine s_assign (by exact rfl) (by exact rfl) ?_
        | refine o_alloc (by exact rfl) (fun b => ?_)
        | refine x_seq ?_
        | refine x_region (by exact rfl) ?_
      revert b; intro b13
      refine o_stk_box (i := 0) (us := [.int .i64 (x : Int), hx]) (by exact rfl) (by exact rfl) (by exact rfl) (by exact rfl) (by exact rfl) (by
        intro u hu
        simp only [List.mem_cons, List.not_mem_nil, or_false] at hu
        rcases hu with rfl | rfl
        · rfl
        · exact hhx1.one) (by simp [Value.cells]) ?_
      repeat' first
        | refine k_then ?_
        | refine s_nil ?_
      refine r_begin (j := 1) (by exact rfl) hst ?_
      refine c_pick [0, 2, 2, 4, 4, 4, 4, 4, 2, 2, 0, 0] (by exact rfl) ?_
      repeat' first
        | refine k_then ?_
        | refine s_nil ?_
        | refine s_move (by exact rfl) (by exact rfl) ?_
        | refine s_assign (by exact rfl) (by exact rfl) ?_
        | refine s_fa (by exact rfl) (by exact rfl) ?_
        | refine s_ld_box (by exact rfl) (by exact rfl) (by exact .head _) (by exact rfl) ?_
        | refine s_len (by exact rfl) (by exact rfl) (by assumption) ?_
        | refine x_seq ?_
        | refine x_region (by exact rfl) ?_
        | refine x_block ?_
      have hnr39 : nr.length ≤ 39 := Nat.le_trans hOK.small (by omega)
      generalize hC : (fun u => decide (u ∈ out)) = C at *
      have hCu : ∀ u, C u = decide (u ∈ out) := fun u => by rw [← hC]
      refine x_loop (fun k : Nat => k ≤ nr.length) (fun k => [(4, .pointer (some ⟨b4, 0, none⟩)), (5, .pointer (some ⟨b5, 0, none⟩)), (11, .pointer (some ⟨b11, 0, none⟩)), (12, .int .i64 (j : Int)), (13, .pointer (some ⟨b13, 0, none⟩)), (14, .int .i64 (encL (nr.take k) C : Int)), (51, hx), (52, .int .i64 (nr.length : Int)), (53, .int .i64 (k : Int))]) (fun _ => _) (fun k => nr.length - k) 0 (List.replicate _ 0) (Nat.zero_le _) (pick_id _) ⟨rfl, rfl, rfl, rfl, rfl, rfl, rfl, rfl, rfl, trivial⟩ ?_
      intro k hk
      by_cases hkl : k < nr.length
      · obtain ⟨u, hu⟩ : ∃ u, nr[k]? = some u := ⟨_, List.getElem?_eq_getElem hkl⟩
        have hcu : (nV nr)[k * 1]? = some (.int .i64 (u : Int)) := by simp [nV, hu]
        have hlk2 := getK_setN out u
        have huN : u < n.toNat := (hOK.nrlt u (List.mem_of_getElem? hu)).1
        have htk : encL (nr.take (k + 1)) C = encL (nr.take k) C + (if C u then 2 ^ k else 0) := by
          rw [List.take_add_one, hu, Option.toList_some, encL_snoc, List.length_take, Nat.min_eq_left (by omega)]
        have hlt2 := encL_lt (nr.take k) C
        rw [List.length_take, Nat.min_eq_left (by omega)] at hlt2
        have h3 : 2 ^ k ≤ 2 ^ 39 := Nat.pow_le_pow_right (by decide) (by omega)
        repeat' first
          | refine k_then ?_
          | refine s_nil ?_
          | refine s_move (by exact rfl) (by exact rfl) ?_
          | refine s_assign (by exact rfl) (by exact rfl) ?_
          | refine s_ld_box (by exact rfl) (by exact rfl) (by exact .tail _ (.head _)) (by exact rfl) ?_
          | refine s_lss (by exact rfl) (by exact rfl) (by exact rfl) ?_
          | refine s_add (by exact rfl) (by exact rfl) (by exact rfl) (by omega) ?_
          | refine s_look (by exact rfl) (by exact rfl) (by exact rfl) (by exact .tail _ (.tail _ (.head _))) (by exact rfl) (by assumption) (by first | exact ⟨by omega, by omega⟩ | exact ⟨⟨by omega, by omega⟩, by omega, by omega⟩) ?_
          | refine s_idx (by exact rfl) (by exact rfl) (by exact rfl) (by assumption) (by first | assumption | omega) ?_
          | refine s_ld_kid (by exact rfl) (by exact rfl) (by assumption) (by exact .tail _ (.tail _ (.tail _ (.tail _ (.tail _ (.tail _ (.tail _ (.head _)))))))) (by assumption) ?_
          | refine k_blk ?_
          | refine s_conv (by exact rfl) (by exact rfl) (by refine ⟨?_, ?_⟩ <;> simp [IntKind.min, IntKind.max, IntKind.signed, IntKind.bits] <;> omega) ?_
          | refine x_seq ?_
          | refine x_region (by exact rfl) ?_
          | refine x_block ?_
          | refine x_skip ?_
          | (refine x_cond_p (by exact rfl) (fun h => ?_) (fun h => ?_) <;> try (exfalso; omega))
        · have hcu2 : C u = true := by rw [hCu]; exact decide_eq_true (by assumption)
          rw [hcu2, if_pos rfl] at htk
          refine s_shl ((2 ^ k : Nat) : Int) (by exact rfl) (by exact rfl) (by exact rfl) ⟨by omega, by omega⟩ (by rw [show (k : Int).toNat = k by omega, Int.one_mul]; norm_cast) ⟨by omega, by omega⟩ ?_
          skip
          refine s_or ((encL (nr.take k) C + 2 ^ k : Nat) : Int) (by exact rfl) (by exact rfl) (by exact rfl) ⟨by omega, by omega⟩ ⟨by omega, by omega⟩ (by
            rw [show ((encL (nr.take k) C : Nat) : Int).toNat = encL (nr.take k) C by omega, show ((2 ^ k : Nat) : Int).toNat = 2 ^ k by omega]
            have := Nat.two_pow_add_eq_or_of_lt hlt2 1
            rw [Nat.mul_one] at this
            rw [Nat.or_comm, ← this, Nat.add_comm]) ?_
          repeat' first
            | refine k_then ?_
            | refine s_nil ?_
            | refine s_move (by exact rfl) (by exact rfl) ?_
            | refine s_assign (by exact rfl) (by exact rfl) ?_
            | refine s_add (by exact rfl) (by exact rfl) (by exact rfl) (by omega) ?_
            | refine k_blk ?_
            | refine x_region (by exact rfl) ?_
          refine c_round (k + 1) (List.replicate _ 0) (pick_id _) ⟨rfl, rfl, rfl, rfl, rfl, by rw [htk]; rfl, rfl, rfl, rfl, trivial⟩ (by omega) (by omega)
        · have hcu2 : C u = false := by rw [hCu]; exact decide_eq_false (by assumption)
          rw [hcu2, if_neg (by simp), Nat.add_zero] at htk
          refine c_round (k + 1) (List.replicate _ 0) (pick_id _) ⟨rfl, rfl, rfl, rfl, rfl, by rw [htk]; rfl, rfl, rfl, rfl, trivial⟩ (by omega) (by omega)
      · rw [List.take_of_length_le (by omega)]
        have hfd : (pool.map fdV)[j * 1]? = some (fdV y) := by simp [hy]
        have hbl : (inL near x nr (tabsT near [] (lk.take j))).length = 2 ^ nr.length := by simp [inL]
        have henc := encL_lt nr C
        have hdl : decL nr (encL nr C) = resC nr C := by
          funext u
          by_cases hu : u ∈ nr
          · rw [decL_enc hu, resC, decide_eq_true hu, Bool.true_and]
          · rw [decL, resC, decide_eq_false hu, Bool.false_and, Bool.false_and]
        have hgt : (inL near x nr (tabsT near [] (lk.take j))).getD (encL nr C) false = inB (nearS (tn es)) x ((lk.take j).map Prod.fst).reverse C := by
          rw [← hinn, ← hdl, inL, List.getD_eq_getElem?_getD, List.getElem?_map, List.getElem?_range henc]; rfl
        have hpl3 : pool.length = lk.length := hpl
        have hvd3 : Shp vd pool.length := by simpa using hvd
        refine know_kid2 (v := y.2.2) (Ks := List.zipWith poolK pool (dsT near [] lk)) (.tail _ (.tail _ (.tail _ (.tail _ (.tail _ (.tail _ (.head _))))))) hpk2 (.tail _ (.tail _ (.head _))) fun hsy => ?_
        repeat' first
          | refine k_then ?_
          | refine s_nil ?_
          | refine s_move (by exact rfl) (by exact rfl) ?_
          | refine s_fa (by exact rfl) (by exact rfl) ?_
          | refine s_ld_box (by exact rfl) (by exact rfl) (by first | exact .tail _ (.tail _ (.tail _ (.head _))) | exact .tail _ (.tail _ (.tail _ (.tail _ (.head _))))) (by exact rfl) ?_
          | refine s_lss (by exact rfl) (by exact rfl) (by exact rfl) ?_
          | refine s_idx (by exact rfl) (by exact rfl) (by exact rfl) (by assumption) (by first | assumption | omega) ?_
          | refine s_ld_row (by exact rfl) (by exact rfl) (by exact .tail _ (.tail _ (.tail _ (.tail _ (.tail _ (.head _)))))) (by assumption) ?_
          | refine k_then_exit ?_
          | refine k_blk_eq ?_
          | refine s_nilc (by exact rfl) (by exact rfl) ?_
          | refine x_seq ?_
          | refine x_region (by exact rfl) ?_
          | refine x_exit ?_
          | (refine x_cond_p (by exact rfl) (fun h => ?_) (fun h => ?_) <;> try (exfalso; omega))
        refine s_callv (pre := []) (vs := [.int .i64 (encL nr C : Int)]) (caps := [.pointer (some ⟨y.2.1, 0, none⟩)]) (by exact rfl) (by exact rfl) (by exact rfl) (fun w h => decided_ok y.2.1 y.2.2 (inL near x nr (tabsT near [] (lk.take j))) (encL nr C) w (rb_kid2 h (.tail _ (.tail _ (.tail _ (.tail _ (.tail _ (.tail _ (.head _))))))) hpk2 (.tail _ (.head _))) hsy (ro_kid2 h (.tail _ (.tail _ (.tail _ (.tail _ (.tail _ (.tail _ (.head _))))))) hpk2 (.tail _ (.tail _ (.head _)))) (by rw [hbl]; exact henc)) ?_
        rw [hgt]
        have hxN : x < n.toNat := hOK.lt
        have hS1 : S1 x C = fun u => decide (u ∈ out ++ [x]) := by
          funext u
          rw [S1, hCu, Bool.eq_iff_iff]
          simp
        have hot2 : ∀ u ∈ out, u ∈ (lk.map Prod.fst).reverse.take (i + 1) := fun u hu => by
          rw [hE3]; exact List.mem_append_left _ (hot u hu)
        cases hb : inB (nearS (tn es)) x ((lk.take j).map Prod.fst).reverse C
        · rw [hb, if_neg (by simp)] at hpk
          repeat' first
            | refine k_then ?_
            | refine s_nil ?_
            | refine k_blk ?_
            | refine x_skip ?_
            | refine x_cond_f (by exact rfl) ?_
          refine r_end (j := 10) [10, 10, 1, 1, 6, 6, 1, 1, 1, 1, 1] rfl rfl fun W2 h2 => ⟨rfl, ?_⟩
          obtain ⟨S2, hm2, hl2⟩ := h2
          refine ⟨_, S2, ⟨_, ⟨out, vo, by omega, by rw [hE2, hC]; exact hpk, hot2, rfl⟩, rfl⟩, hm2, hl2⟩
        · rw [hb, if_pos rfl, hS1] at hpk
          repeat' first
            | refine k_then ?_
            | refine s_nil ?_
            | refine s_fa (by exact rfl) (by exact rfl) ?_
            | refine s_ld_box (by exact rfl) (by exact rfl) (by first | exact .head _ | exact .tail _ (.head _)) (by exact rfl) ?_
            | refine x_seq ?_
            | refine x_region (by exact rfl) ?_
            | refine x_cond_t (by exact rfl) ?_
          refine o_mapup (x : Int) true (by exact rfl) (by exact rfl) (by exact rfl) (i := 2) (by exact rfl) rfl rfl ⟨by omega, by omega⟩ ?_
          rw [putK_setN hxo]
          repeat' first
            | refine k_then ?_
            | refine s_nil ?_
            | refine s_fa (by exact rfl) (by exact rfl) ?_
            | refine s_ld_box (by exact rfl) (by exact rfl) (by first | exact .head _ | exact .tail _ (.tail _ (.tail _ (.tail _ (.tail _ (.tail _ (.tail _ (.tail _ (.head _))))))))) (by exact rfl) ?_
            | refine x_region (by exact rfl) ?_
          refine o_mk [.int .i64 (x : Int)] (by exact rfl) (by exact rfl) rfl ?_ ?_ (by simp) fun va hva => ?_
          · simp [Value.cells]
          · simp
          skip
          refine o_append_row (i := 10) (by exact rfl) (by exact rfl) (by exact rfl) (by exact rfl) (by exact .head _) (by exact rfl) (by simp [Value.cells, Value.oneCell']) (by omega) fun vo2 hvo2 => ?_
          skip
          refine o_st_box (i := 9) (by exact rfl) (by exact rfl) (by exact rfl) hvo2.one (by simp) ?_
          repeat' first
            | refine s_nil ?_
            | refine k_blk ?_
          refine r_end (j := 11) [11, 11, 2, 2, 7, 7, 2, 2, 2, 2, 2] rfl rfl fun W2 h2 => ⟨rfl, ?_⟩
          obtain ⟨S2, hm2, hl2⟩ := h2
          refine ⟨_, S2, ⟨_, ⟨out ++ [x], vo2, by omega, by rw [hE2, hpk, List.append_assoc]; rfl, ?_, rfl⟩, rfl⟩, hm2, ?_⟩
          · intro u hu
            rcases List.mem_append.1 hu with hu | hu
            · exact hot2 u hu
            · obtain rfl : u = x := by simpa using hu
              rw [hE3]; simp
          · rw [show nV (out ++ [x]) = nV out ++ [.int .i64 (x : Int)] by simp [nV], List.length_append, List.length_singleton]
            exact hl2
    · rintro _ l D r ⟨out, vo, _, hpk, hot, rfl⟩
      rw [List.drop_of_length_le (by simp), pickE, List.append_nil] at hpk
      refine know_row (v := vo) (.tail _ (.tail _ (.tail _ (.tail _ (.tail _ (.head _)))))) fun hvo _ => ?_
      refine m_blk ?_
      refine m_then ?_
      refine m_seq ?_
      refine m_region (by exact rfl) ?_
      repeat' first
        | refine s_ld_box (by exact rfl) (by exact rfl) (by exact .tail _ (.tail _ (.tail _ (.tail _ (.head _))))) (by exact rfl) ?_
      refine o_st_box (i := 4) (by exact rfl) (by exact rfl) (by exact rfl) hvo.one (by simp) ?_
      repeat' first
        | refine s_nil ?_
      refine m_then ?_
      refine m_ret ?_
      refine m_end (j := 1) rfl ?_
      refine retL [.cell 4 27] [vo] [5] rfl ⟨res_cell (off := 0) (tb := 27) (cs := [vo]) rfl (.tail _ (.tail _ (.tail _ (.tail _ (.head _))))) rfl, trivial⟩ (by exact rfl) ⟨out, rfl, ?_⟩
      rw [hpk] at hpn hpsub
      refine ⟨hpn, fun u hu => (hEm u).1 (List.mem_reverse.1 (hpsub.mem hu)), fun Y hY hYm => ?_⟩
      rw [← hpk, pickE_length]
      exact val_upper hY fun u hu => List.mem_reverse.2 ((hEm u).2 (hYm u hu))
end Go.Proofs.Ytkekpgkacjpjnaa
end
section
namespace Go.Proofs.Ytkekpgkacjpjnaa
open Go.RowKit Go.Sl Fil
set_option maxRecDepth 100000
set_option maxHeartbeats 8000000
set_option linter.unusedVariables false
set_option linter.unusedSimpArgs false
attribute [local irreducible] Code.wp wpList bodyPost wpQuiet Exit.then Exit.inBlock Post wpAnyH wpOp
theorem esV_snoc (l : List E) (e : E) : esV (l ++ [e]) = esV l ++ eV e := by simp [esV, List.flatMap_append]
theorem some_ok (n : Int) (v : Value) (es : List E) (f : FuncId) (caps : List Value) (p : E → Bool) (w : World) [FnTy Try.prog f] (hs : Shp v es.length) (hr : RO w No v (esV es)) (hR : RightG n es)
    (hcl : ∀ (k : Nat) e, es[k]? = some e → ∀ w' S', Mod w No w' S' → Calls Try.prog f ([Value.int .i64 (k : Int), Value.agg (eV e).toArray] ++ caps).toArray w' (Post w' No (Just (.bool (p e))))) :
    Calls Try.prog 67 #[.agg #[.int .i64 n, v], .func (.func f) #[] caps.toArray] w (Post w No fun r L' => ∃ vo, r = .agg #[.int .i64 n, vo] ∧ L' = [rowHP vo 47 3 (es.filter p).length (esV (es.filter p))]) := by
  have hR0 := right_iff.2 hR
  have hm : es.length < 4611686018427387904 := by have := hR.many; omega
  refine enter0 (vs := [_, _]) Try.func67 rfl Try.ntmps67 rfl ?_
  repeat' first
    | refine k_then ?_
    | refine c_seq ?_
    | refine c_region ?_
    | refine s_nil ?_
    | refine s_ldk_box (by exact rfl) (by exact rfl) (by exact .tail _ (.head _)) (by exact rfl) (by exact rfl) ?_
    | refine o_box (by exact rfl) (by exact rfl) (fun b => ?_)
    | refine o_alloc (by exact rfl) (fun b => ?_)
  refine s_call (by exact rfl) (by exact rfl) (fun w h => Right_ok n v es w hs (ro_old h hr) hm) ?_
  repeat' first
    | refine k_then ?_
    | refine c_seq ?_
    | refine c_region ?_
    | refine s_nil ?_
    | refine s_fa (by exact rfl) (by exact rfl) ?_
    | refine s_ld_box (by exact rfl) (by exact rfl) (by exact .tail _ (.head _)) (by exact rfl) ?_
    | refine s_neq (by exact rfl) (by exact rfl) (by exact rfl) ?_
    | refine c_skip ?_
    | (refine c_cond_p (by exact rfl) (fun h => ?_) (fun h => ?_) <;> try (exfalso; omega))
  refine o_build [(0, .int .i64 n, [.int .i64 n])] (by exact rfl) (by exact rfl) (by simp [Value.cells]) (by exact rfl) ?_
  repeat' first
    | refine o_alloc (by exact rfl) (fun b => ?_)
  refine o_stk_box (i := 0) (us := [.int .i64 n, .slice none 0 0]) (by exact rfl) (by exact rfl) (by exact rfl) (by exact rfl) (by exact rfl) (by simp [Value.oneCell']) (by simp [Value.cells]) ?_
  repeat' first
    | refine k_then ?_
    | refine c_seq ?_
    | refine c_region ?_
    | refine s_nil ?_
    | refine s_move (by exact rfl) (by exact rfl) ?_
    | refine s_fa (by exact rfl) (by exact rfl) ?_
    | refine s_ld_box (by exact rfl) (by exact rfl) (by exact .tail _ (.tail _ (.head _))) (by exact rfl) ?_
    | refine s_len (by exact rfl) (by exact rfl) (by assumption) ?_
    | refine c_block ?_
  rename_i bg b1
  refine c_nil 47 3 ?_
  refine c_loop (fun x : Nat × Value => x.1 ≤ es.length) (fun x => [(1, .func (.func f) #[] caps.toArray), (4, .pointer (some ⟨b1, 0, none⟩)), (5, .pointer (some ⟨b, 0, none⟩)), (16, v), (17, .int .i64 (es.length : Int)), (18, .int .i64 (x.1 : Int))])
    (fun x => [rowHP x.2 47 3 ((es.take x.1).filter p).length (esV ((es.take x.1).filter p)), boxHP b 24 [.int .i64 n, x.2], boxHP b1 24 [.int .i64 0, .slice none 0 0]]) (fun x => es.length - x.1) (0, .slice none 0 0) [0, 0, 0] (Nat.zero_le _) (by exact rfl) ⟨rfl, rfl, rfl, rfl, rfl, rfl, trivial⟩ ?_
  rintro ⟨k, vx⟩ hk
  dsimp only at hk ⊢
  refine know_row (v := vx) (.head _) fun hvx _ => ?_
  by_cases hlt : k < es.length
  · obtain ⟨e, he⟩ : ∃ e, es[k]? = some e := ⟨_, List.getElem?_eq_getElem hlt⟩
    have hE := esV_at he
    have hcnt : ((es.take k).filter p).length ≤ 4194304 := by
      have h1 := List.length_filter_le p (es.take k)
      have h2 := hR.many
      rw [List.length_take] at h1
      omega
    have htk : (es.take (k + 1)).filter p = (es.take k).filter p ++ (if p e then [e] else []) := by
      rw [List.take_add_one, he, List.filter_append]
      simp [List.filter_cons]
    repeat' first
      | refine k_then ?_
      | refine c_seq ?_
      | refine c_region ?_
      | refine s_nil ?_
      | refine s_move (by exact rfl) (by exact rfl) ?_
      | refine s_assign (by exact rfl) (by exact rfl) ?_
      | refine s_lss (by exact rfl) (by exact rfl) (by exact rfl) ?_
      | refine s_idx (by exact rfl) (by exact rfl) (by exact rfl) (by assumption) (by first | assumption | omega) ?_
      | refine s_ldk_ro (by exact rfl) (by exact rfl) (by assumption) (by decide) (by assumption) (by exact rfl) ?_
      | refine o_alloc (by exact rfl) (fun b => ?_)
      | refine c_block ?_
      | refine c_skip ?_
      | (refine c_cond_p (by exact rfl) (fun h => ?_) (fun h => ?_) <;> try (exfalso; omega))
    refine o_stk_box (i := 0) (us := eV e) (by exact rfl) (by exact rfl) (by exact rfl) (by exact rfl) (by exact rfl) (by simp [eV, Value.oneCell']) (by simp [Value.cells]) ?_
    repeat' first
      | refine k_then ?_
      | refine c_seq ?_
      | refine c_region ?_
      | refine s_nil ?_
      | refine s_move (by exact rfl) (by exact rfl) ?_
      | refine s_ldk_box (by exact rfl) (by exact rfl) (by exact .head _) (by exact rfl) (by exact rfl) ?_
    refine s_callv (pre := []) (by exact rfl) (by exact rfl) (by exact rfl) (fun w h => h.mod0.elim fun S' hm => hcl k e he w S' hm) ?_
    cases hp : p e
    · rw [hp, if_neg (by simp), List.append_nil] at htk
      repeat' first
        | refine k_then ?_
        | refine c_region ?_
        | refine s_nil ?_
        | refine s_move (by exact rfl) (by exact rfl) ?_
        | refine s_add (by exact rfl) (by exact rfl) (by exact rfl) (by omega) ?_
        | refine c_skip ?_
        | refine k_blk ?_
        | refine c_cond_f (by exact rfl) ?_
      refine c_round (k + 1, vx) [1, 1, 1] (by dsimp only; rw [htk]; rfl) (by exact ⟨rfl, rfl, rfl, rfl, rfl, rfl, trivial⟩) (by dsimp only; omega) (by dsimp only; omega)
    · rw [hp, if_pos rfl] at htk
      repeat' first
        | refine k_then ?_
        | refine c_region ?_
        | refine s_nil ?_
        | refine s_fa (by exact rfl) (by exact rfl) ?_
        | refine s_ld_box (by exact rfl) (by exact rfl) (by exact .tail _ (.tail _ (.head _))) (by exact rfl) ?_
        | refine s_ldk_box (by exact rfl) (by exact rfl) (by exact .head _) (by exact rfl) (by exact rfl) ?_
        | refine c_cond_t (by exact rfl) ?_
      refine o_mk [.agg (eV e).toArray] (by exact rfl) (by exact rfl) rfl ?_ ?_ (by simp) fun vt hvt => ?_
      · simp [Value.cells, eV]
      · simp
      skip
      refine o_append_row (i := 2) (by exact rfl) (by exact rfl) (by exact rfl) (by exact rfl) (by exact .head _) (by simp [Value.cells, eV]) (by simp [Value.cells, eV, Value.oneCell']) ?_ fun vy hvy => ?_
      · omega
      repeat' first
        | refine s_fa (by exact rfl) (by exact rfl) ?_
      refine o_st_box (i := 3) (by exact rfl) (by exact rfl) (by exact rfl) hvy.one (by simp [Value.cells]) ?_
      repeat' first
        | refine k_then ?_
        | refine c_region ?_
        | refine s_nil ?_
        | refine s_move (by exact rfl) (by exact rfl) ?_
        | refine s_add (by exact rfl) (by exact rfl) (by exact rfl) (by omega) ?_
        | refine k_blk ?_
      refine c_round (k + 1, vy) [2, 2, 2] ?_ (by exact ⟨rfl, rfl, rfl, rfl, rfl, rfl, trivial⟩) (by dsimp only; omega) (by dsimp only; omega)
      dsimp only
      rw [htk, esV_snoc, List.length_append]
      rfl
  · repeat' first
      | refine k_then ?_
      | refine c_seq ?_
      | refine c_region ?_
      | refine s_nil ?_
      | refine s_lss (by exact rfl) (by exact rfl) (by exact rfl) ?_
      | refine s_ldk_box (by exact rfl) (by exact rfl) (by exact .tail _ (.head _)) (by exact rfl) (by exact rfl) ?_
      | refine c_exit ?_
      | refine k_then_exit ?_
      | refine k_blk_eq ?_
      | (refine c_cond_p (by exact rfl) (fun h => ?_) (fun h => ?_) <;> try (exfalso; omega))
    obtain rfl : k = es.length := by omega
    refine o_stk_box (i := 2) (us := [.int .i64 n, vx]) (by exact rfl) (by exact rfl) (by exact rfl) (by exact rfl) (by exact rfl) (by
      intro u hu
      simp only [List.mem_cons, List.not_mem_nil, or_false] at hu
      rcases hu with rfl | rfl
      · rfl
      · exact hvx.one) (by simp [Value.cells]) ?_
    repeat' first
      | refine k_then ?_
      | refine s_nil ?_
      | refine c_ret ?_
    refine retL [.cell 4 24] [.agg #[.int .i64 n, vx]] [0] rfl ⟨res_cellk (tb := 24) (cs := [.int .i64 n, vx]) rfl (.tail _ (.tail _ (.head _))) rfl rfl, trivial⟩ rfl ⟨vx, rfl, ?_⟩
    rw [List.take_length]
theorem only1_ok (x : Nat) (b : Nat) (vk : Value) (keep : List Bool) (w : World) (hb : RB w No b 35 [vk]) (hs : Shp vk keep.length) (hr : RO w No vk (bV keep)) :
    Calls Try.prog 66 #[.int .i64 (x : Int), .pointer (some ⟨b, 0, none⟩)] w (Post w No (Just (.bool (keep.getD x false)))) := by
  refine enter0 (vs := [_, _]) Try.func66 rfl Try.ntmps66 rfl ?_
  by_cases hx : x < keep.length
  · have hg := bV_get hx
    repeat' first
      | refine k_then ?_
      | refine c_seq ?_
      | refine c_region ?_
      | refine s_nil ?_
      | refine s_move (by exact rfl) (by exact rfl) ?_
      | refine s_assign (by exact rfl) (by exact rfl) ?_
      | refine s_lss (by exact rfl) (by exact rfl) (by exact rfl) ?_
      | refine s_len (by exact rfl) (by exact rfl) (by assumption) ?_
      | refine s_pick_t (by exact rfl) (by exact rfl) (by exact rfl) ?_
      | refine s_ld_rb (by exact rfl) (by exact rfl) (by assumption) (by exact rfl) ?_
      | refine c_ret ?_
      | (refine g_case (by exact rfl) (by exact rfl) (fun h => ?_) (fun h => ?_) <;> try (exfalso; omega))
      | refine w_move (by exact rfl) (by exact rfl) (by exact rfl) (by exact rfl) ?_
      | refine w_idx (by exact rfl) (by exact rfl) (by exact rfl) (by exact rfl) (by exact rfl) (by assumption) (by first | assumption | omega) ?_
      | refine w_ld_ro (by exact rfl) (by exact rfl) (by exact rfl) (by exact rfl) (by assumption) (by assumption) ?_
      | refine w_ld_rb (by exact rfl) (by exact rfl) (by exact rfl) (by exact rfl) (by assumption) (by exact rfl) ?_
    refine ret1 [] rfl rfl rfl ⟨rfl, rfl⟩
  · repeat' first
      | refine k_then ?_
      | refine c_seq ?_
      | refine c_region ?_
      | refine s_nil ?_
      | refine s_move (by exact rfl) (by exact rfl) ?_
      | refine s_assign (by exact rfl) (by exact rfl) ?_
      | refine s_lss (by exact rfl) (by exact rfl) (by exact rfl) ?_
      | refine s_len (by exact rfl) (by exact rfl) (by assumption) ?_
      | refine s_pick_f (by exact rfl) (by exact rfl) (by exact rfl) ?_
      | refine s_ld_rb (by exact rfl) (by exact rfl) (by assumption) (by exact rfl) ?_
      | refine c_ret ?_
      | (refine g_case (by exact rfl) (by exact rfl) (fun h => ?_) (fun h => ?_) <;> try (exfalso; omega))
      | refine g_skip (by exact rfl) (by exact rfl) (by exact rfl) (by exact rfl) ?_
    refine ret1 [] rfl rfl rfl ⟨congrArg Value.bool ?_, rfl⟩
    simp [hx]
theorem only2_ok (k : Int) (e : E) (x y : Nat) (bk c : Nat) (vk : Value) (keep : List Bool) (w : World) (hx : e.1 = x) (hy : e.2.1 = y) (hb : RB w No bk 35 [vk]) (hc : RB w No c 90 [.func (.func 66) #[] #[.pointer (some ⟨bk, 0, none⟩)]]) (hs : Shp vk keep.length) (hr : RO w No vk (bV keep)) :
    Calls Try.prog 68 #[.int .i64 k, .agg (eV e).toArray, .pointer (some ⟨c, 0, none⟩)] w (Post w No (Just (.bool (keep.getD x false && keep.getD y false)))) := by
  refine enter0 (vs := [_, _, _]) Try.func68 rfl Try.ntmps68 rfl ?_
  obtain ⟨e1, e2, e3⟩ := e
  dsimp only at hx hy
  subst hx hy
  repeat' first
    | refine k_then ?_
    | refine c_seq ?_
    | refine c_region ?_
    | refine s_nil ?_
    | refine s_assign (by exact rfl) (by exact rfl) ?_
    | refine s_fa (by exact rfl) (by exact rfl) ?_
    | refine s_ld_box (by exact rfl) (by exact rfl) (by exact .head _) (by exact rfl) ?_
    | refine s_ld_rb (by exact rfl) (by exact rfl) (by assumption) (by exact rfl) ?_
    | refine o_box (by exact rfl) (by exact rfl) (fun b => ?_)
  refine s_callv (pre := []) (vs := [.int .i64 (x : Int)]) (by exact rfl) (by exact rfl) (by exact rfl) (fun w h => only1_ok x bk vk keep w (rb_old h hb) hs (ro_old h hr)) ?_
  cases keep.getD x false
  · repeat' first
      | refine k_then ?_
      | refine s_nil ?_
      | refine s_move (by exact rfl) (by exact rfl) ?_
      | refine s_assign (by exact rfl) (by exact rfl) ?_
      | refine s_pick_f (by exact rfl) (by exact rfl) (by exact rfl) ?_
      | refine c_ret ?_
      | refine g_skip (by exact rfl) (by exact rfl) (by exact rfl) (by exact rfl) ?_
    refine ret1 [] rfl rfl rfl ⟨rfl, rfl⟩
  · repeat' first
      | refine s_move (by exact rfl) (by exact rfl) ?_
      | refine w_fa (by exact rfl) (by exact rfl) (by exact rfl) (by exact rfl) ?_
      | refine w_ld_box (by exact rfl) (by exact rfl) (by exact rfl) (by exact rfl) (by exact .head _) (by exact rfl) ?_
      | refine w_ld_rb (by exact rfl) (by exact rfl) (by exact rfl) (by exact rfl) (by assumption) (by exact rfl) ?_
    refine w_callv (pre := []) (vs := [.int .i64 (y : Int)]) (by exact rfl) (by exact rfl) (by exact rfl) (by exact rfl) (by exact rfl) (fun w h => only1_ok y bk vk keep w (rb_old h hb) hs (ro_old h hr)) ?_
    repeat' first
      | refine k_then ?_
      | refine s_nil ?_
      | refine s_assign (by exact rfl) (by exact rfl) ?_
      | refine s_pick_t (by exact rfl) (by exact rfl) (by exact rfl) ?_
      | refine c_ret ?_
    refine ret1 [] rfl rfl rfl ⟨rfl, rfl⟩
def keepE (keep : List Bool) (e : E) : Bool := keep.getD e.1.toNat false && keep.getD e.2.1.toNat false
theorem Only_ok (n : Int) (v : Value) (es : List E) (vk : Value) (keep : List Bool) (w : World) (hs : Shp v es.length) (hr : RO w No v (esV es)) (hR : RightG n es) (hks : Shp vk keep.length) (hkr : RO w No vk (bV keep)) :
    Calls Try.prog 45 #[.agg #[.int .i64 n, v], vk] w (Post w No fun r L' => ∃ vo, r = .agg #[.int .i64 n, vo] ∧ L' = [rowHP vo 47 3 (es.filter (keepE keep)).length (esV (es.filter (keepE keep)))]) := by
  refine enter0 (vs := [_, _]) Try.func45 rfl Try.ntmps45 rfl ?_
  repeat' first
    | refine k_then ?_
    | refine c_seq ?_
    | refine c_region ?_
    | refine s_nil ?_
    | refine o_box (by exact rfl) (by exact rfl) (fun b => ?_)
    | refine o_alloc (by exact rfl) (fun b => ?_)
  rename_i b2 b3
  rw [one_cells hks.one]
  refine o_mkf [] [.pointer (some ⟨b3, 0, none⟩)] (by exact rfl) (by exact rfl) (by exact rfl) ?_
  repeat' first
    | refine o_alloc (by exact rfl) (fun b => ?_)
  rename_i b5
  refine o_st_box (i := 0) (by exact rfl) (by exact rfl) (by exact rfl) rfl (by simp [Value.cells]) ?_
  repeat' first
    | refine k_then ?_
    | refine c_seq ?_
    | refine c_region ?_
    | refine s_nil ?_
    | refine s_ldk_box (by exact rfl) (by exact rfl) (by exact .tail _ (.tail _ (.tail _ (.head _)))) (by exact rfl) (by exact rfl) ?_
  refine o_mkf [] [.pointer (some ⟨b, 0, none⟩)] (by exact rfl) (by exact rfl) (by exact rfl) ?_
  refine o_call (vs := [.agg #[.int .i64 n, v], .func (.func 68) #[] #[.pointer (some ⟨b, 0, none⟩)]]) (by exact rfl) (by exact rfl) (fun w h => some_ok n v es 68 [.pointer (some ⟨b, 0, none⟩)] (keepE keep) w hs (ro_old h hr) hR ?_) ?_
  · intro k e he w' S' hm
    obtain ⟨q1, q2, q3, -, -⟩ := hR.ok e (List.mem_of_getElem? he)
    exact only2_ok k e e.1.toNat e.2.1.toNat b3 b vk keep w' (by omega) (by omega) (rb_mod (rb_own h (.tail _ (.tail _ (.head _)))) hm) (rb_mod (rb_own h (.head _)) hm) hks (ro_mod (ro_old h hkr) hm)
  rintro _ _ ⟨vo, rfl, rfl⟩
  refine know_row (v := vo) (.head _) fun hvo _ => ?_
  skip
  refine o_stk_box (i := 2) (us := [.int .i64 n, vo]) (by exact rfl) (by exact rfl) (by exact rfl) (by exact rfl) (by exact rfl) ?_ (by simp [Value.cells]) ?_
  · intro u hu
    simp only [List.mem_cons, List.not_mem_nil, or_false] at hu
    rcases hu with rfl | rfl
    · rfl
    · exact hvo.one
  repeat' first
    | refine k_then ?_
    | refine s_nil ?_
    | refine c_ret ?_
  refine retL [.cell 4 24] [.agg #[.int .i64 n, vo]] [0] rfl ⟨res_cellk (tb := 24) (cs := [.int .i64 n, vo]) rfl (.tail _ (.tail _ (.head _))) rfl rfl, trivial⟩ rfl ⟨vo, rfl, rfl⟩
end Go.Proofs.Ytkekpgkacjpjnaa
end
section
namespace Go.Proofs.Ytkekpgkacjpjnaa
open Go.RowKit Go.Sl Fil
set_option maxRecDepth 100000
set_option maxHeartbeats 8000000
set_option linter.unusedVariables false
set_option linter.unusedSimpArgs false
attribute [local irreducible] Code.wp wpList bodyPost wpQuiet Exit.then Exit.inBlock Post wpAnyH wpOp
end Go.Proofs.Ytkekpgkacjpjnaa
end
section
namespace Go.Proofs.Ytkekpgkacjpjnaa
open Go.RowKit Go.Sl Fil
set_option maxRecDepth 100000
set_option maxHeartbeats 8000000
set_option linter.unusedVariables false
set_option linter.unusedSimpArgs false
attribute [local irreducible] Code.wp wpList bodyPost wpQuiet Exit.then Exit.inBlock Post wpAnyH wpOp
theorem Labels_ok (n : Int) (v : Value) (es : List E) (w : World) (hs : Shp v es.length) (hr : RO w No v (esV es)) (hR : RightG n es) :
    Calls Try.prog 43 #[.agg #[.int .i64 n, v]] w (Post w No fun r L' => L' = [rowHP r 3 1 n.toNat (nV (rounds relaxL (tn es) n.toNat (List.range n.toNat)))]) := by
  have hm : es.length < 4611686018427387904 := by have := hR.many; omega
  have hlo := hR.lo
  have hhi := hR.hi
  refine enter0 (vs := [_]) Try.func43 rfl Try.ntmps43 rfl ?_
  repeat' first
    | refine k_then ?_
    | refine c_seq ?_
    | refine c_region ?_
    | refine s_nil ?_
    | refine s_assign (by exact rfl) (by exact rfl) ?_
    | refine s_fa (by exact rfl) (by exact rfl) ?_
    | refine s_ld_box (by exact rfl) (by exact rfl) (by exact .head _) (by exact rfl) ?_
    | refine o_box (by exact rfl) (by exact rfl) (fun b => ?_)
  refine o_make (by exact rfl) (by exact rfl) (by exact rfl) (by omega) (by omega) fun vl hvl => ?_
  rw [made1 (z := .int .i64 0) rfl]
  repeat' first
    | refine k_then ?_
    | refine c_seq ?_
    | refine c_region ?_
    | refine s_nil ?_
    | refine s_assign (by exact rfl) (by exact rfl) ?_
    | refine c_block ?_
  generalize hN : n.toNat = N at *
  have hnN : n = (N : Int) := by omega
  subst hnN
  refine c_loop (fun i : Nat => i ≤ N) (fun i => [(1, .pointer (some ⟨b, 0, none⟩)), (3, vl), (4, .int .i64 (i : Int))]) (fun i => [rowHP vl 3 1 N (nV (fillL id 0 N i)), boxHP b 24 [.int .i64 (N : Int), v]]) (fun i => N - i) 0 [0, 0] (Nat.zero_le _) (by rw [fill_zero]; simp only [nV, List.map_replicate]; rfl) ⟨rfl, rfl, rfl, trivial⟩ ?_
  intro i hi
  by_cases hil : i < N
  · repeat' first
      | refine k_then ?_
      | refine c_seq ?_
      | refine c_region ?_
      | refine s_nil ?_
      | refine s_move (by exact rfl) (by exact rfl) ?_
      | refine s_fa (by exact rfl) (by exact rfl) ?_
      | refine s_ld_box (by exact rfl) (by exact rfl) (by exact .tail _ (.head _)) (by exact rfl) ?_
      | refine s_lss (by exact rfl) (by exact rfl) (by exact rfl) ?_
      | refine s_idx (by exact rfl) (by exact rfl) (by exact rfl) (by assumption) (by first | assumption | omega) ?_
      | refine c_block ?_
      | refine c_skip ?_
      | (refine c_cond_p (by exact rfl) (fun h => ?_) (fun h => ?_) <;> try (exfalso; omega))
    refine o_st_row (i := 0) (by exact rfl) (by exact rfl) (by exact rfl) rfl (by omega) ?_
    repeat' first
      | refine k_then ?_
      | refine c_region ?_
      | refine s_nil ?_
      | refine s_move (by exact rfl) (by exact rfl) ?_
      | refine s_assign (by exact rfl) (by exact rfl) ?_
      | refine s_add (by exact rfl) (by exact rfl) (by exact rfl) (by omega) ?_
      | refine k_blk ?_
    refine c_round (i + 1) [0, 0] (by rw [nV_set, ← fill_set id 0 hil]; rfl) (by exact ⟨rfl, rfl, rfl, trivial⟩) (by omega) (by omega)
  · repeat' first
      | refine k_then ?_
      | refine c_seq ?_
      | refine c_region ?_
      | refine s_nil ?_
      | refine s_move (by exact rfl) (by exact rfl) ?_
      | refine s_assign (by exact rfl) (by exact rfl) ?_
      | refine s_fa (by exact rfl) (by exact rfl) ?_
      | refine s_ld_box (by exact rfl) (by exact rfl) (by exact .tail _ (.head _)) (by exact rfl) ?_
      | refine s_lss (by exact rfl) (by exact rfl) (by exact rfl) ?_
      | refine c_block ?_
      | refine c_exit ?_
      | refine k_then_exit ?_
      | refine k_blk_eq ?_
      | (refine c_cond_p (by exact rfl) (fun h => ?_) (fun h => ?_) <;> try (exfalso; omega))
    obtain rfl : i = N := by omega
    have hl0 : (List.range i).length = i := by simp
    have hlen : ∀ (r : List (Nat × Nat)) (c : List Nat), (r.foldl relaxL c).length = c.length := by
      intro r
      induction r with
      | nil => intro c; rfl
      | cons e r ih => intro c; rw [List.foldl_cons, ih]; simp [relaxL]
    have hrl : ∀ k, (rounds relaxL (tn es) k (List.range i)).length = i := by
      intro k
      induction k with
      | zero => simp [rounds]
      | succ k ih => rw [rounds, hlen, ih]
    refine c_loop (fun q : Nat => q ≤ i) (fun q => [(1, .pointer (some ⟨b, 0, none⟩)), (3, vl), (5, .int .i64 (q : Int))]) (fun q => [rowHP vl 3 1 i (nV (rounds relaxL (tn es) q (List.range i))), boxHP b 24 [.int .i64 (i : Int), v]]) (fun q => i - q) 0 [0, 0] (Nat.zero_le _) (by rw [fillL_all, List.map_id]; rfl) ⟨rfl, rfl, rfl, trivial⟩ ?_
    intro q hq
    by_cases hql : q < i
    · repeat' first
        | refine k_then ?_
        | refine c_seq ?_
        | refine c_region ?_
        | refine s_nil ?_
        | refine s_move (by exact rfl) (by exact rfl) ?_
        | refine s_assign (by exact rfl) (by exact rfl) ?_
        | refine s_fa (by exact rfl) (by exact rfl) ?_
        | refine s_ld_box (by exact rfl) (by exact rfl) (by exact .tail _ (.head _)) (by exact rfl) ?_
        | refine s_lss (by exact rfl) (by exact rfl) (by exact rfl) ?_
        | refine c_block ?_
        | refine c_skip ?_
        | (refine c_cond_p (by exact rfl) (fun h => ?_) (fun h => ?_) <;> try (exfalso; omega))
      generalize hc0 : rounds relaxL (tn es) q (List.range i) = c0 at *
      have hc0l : c0.length = i := by rw [← hc0]; exact hrl q
      refine c_loop (fun k : Nat => k ≤ es.length) (fun k => [(1, .pointer (some ⟨b, 0, none⟩)), (3, vl), (5, .int .i64 (q : Int)), (6, .int .i64 (k : Int))]) (fun k => [rowHP vl 3 1 i (nV ((tn (es.take k)).foldl relaxL c0)), boxHP b 24 [.int .i64 (i : Int), v]]) (fun k => es.length - k) 0 [0, 0] (Nat.zero_le _) (by exact rfl) ⟨rfl, rfl, rfl, rfl, trivial⟩ ?_
      intro k hk
      by_cases hkl : k < es.length
      · obtain ⟨e, he⟩ : ∃ e, es[k]? = some e := ⟨_, List.getElem?_eq_getElem hkl⟩
        obtain ⟨hE0, hE1, hE2⟩ := esV_get he
        obtain ⟨q1, q2, q3, -, -⟩ := hR.ok e (List.mem_of_getElem? he)
        have htk := tn_take he
        generalize hc : (tn (es.take k)).foldl relaxL c0 = c at *
        have hcl : c.length = i := by rw [← hc, hlen]; exact hc0l
        have hu := nV_get (l := c) (k := e.1.toNat) (by omega)
        have hv := nV_get (l := c) (k := e.2.1.toNat) (by omega)
        repeat' first
          | refine k_then ?_
          | refine c_seq ?_
          | refine c_region ?_
          | refine s_nil ?_
          | refine s_move (by exact rfl) (by exact rfl) ?_
          | refine s_fa (by exact rfl) (by exact rfl) ?_
          | refine s_ld_box (by exact rfl) (by exact rfl) (by exact .tail _ (.head _)) (by exact rfl) ?_
          | refine s_lss (by exact rfl) (by exact rfl) (by exact rfl) ?_
          | refine s_len (by exact rfl) (by exact rfl) (by assumption) ?_
          | refine c_block ?_
          | refine c_skip ?_
          | (refine c_cond_p (by exact rfl) (fun h => ?_) (fun h => ?_) <;> try (exfalso; omega))
        refine p_begin0 [(0, true), (1, true), (2, true), (3, true), (4, true), (5, true), (6, true), (7, true), (8, true), (9, true), (10, true), (11, true), (12, true), (13, true), (14, true), (15, true), (16, true), (17, true), (18, true), (19, true)] (by kernel_rfl) ?_
        repeat' first
          | refine p_nil ?_
          | (refine p_at (by exact rfl) ?_
             first
              | refine t_move (by exact rfl) (by exact rfl) (by exact fun _ h => h) ?_
              | refine t_assign (by exact rfl) (by exact rfl) (by exact fun _ h => h) ?_
              | refine t_fa (by exact rfl) (by exact rfl) (by exact fun _ h => h) ?_
              | refine t_ld_box (by exact rfl) (by exact rfl) (by exact .tail _ (.head _)) (by exact rfl) (by exact fun _ h => h) ?_
              | refine t_min (by exact rfl) (by exact rfl) (by exact rfl) (by exact fun _ h => h) ?_
              | refine t_idx (by exact rfl) (by exact rfl) (by exact rfl) (by assumption) (by first | assumption | omega) (by exact fun _ h => h) ?_
              | refine t_idxi (by exact rfl) (by exact rfl) (by exact rfl) (by assumption) (by first | assumption | omega) (by exact fun _ h => h) ?_
              | refine t_fap (by exact rfl) (by exact rfl) (by assumption) (by omega) (by exact fun _ h => h) ?_
              | refine t_ld_ro (by exact rfl) (by exact rfl) (by assumption) (by assumption) (by exact fun _ h => h) ?_
              | refine t_ld_row (by exact rfl) (by exact rfl) (by exact .head _) (by assumption) (by exact fun _ h => h) ?_)
        repeat' first
          | refine k_then ?_
          | refine c_seq ?_
          | refine c_region ?_
          | refine s_move (by exact rfl) (by exact rfl) ?_
          | refine s_fa (by exact rfl) (by exact rfl) ?_
          | refine s_ld_box (by exact rfl) (by exact rfl) (by exact .tail _ (.head _)) (by exact rfl) ?_
          | refine s_idx (by exact rfl) (by exact rfl) (by exact rfl) (by assumption) (by first | assumption | omega) ?_
          | refine s_idxi (by exact rfl) (by exact rfl) (by exact rfl) (by assumption) (by first | assumption | omega) ?_
          | refine s_fap (by exact rfl) (by exact rfl) (by assumption) (by omega) ?_
          | refine s_ld_ro (by exact rfl) (by exact rfl) (by assumption) (by assumption) ?_
        rw [show min ((c.getD e.1.toNat 0 : Nat) : Int) ((c.getD e.2.1.toNat 0 : Nat) : Int) = ((min (c.getD e.1.toNat 0) (c.getD e.2.1.toNat 0) : Nat) : Int) from by omega]
        refine o_st_row (i := 0) (by exact rfl) (by exact rfl) (by exact rfl) rfl (by omega) ?_
        repeat' first
          | refine k_then ?_
          | refine c_region ?_
          | refine s_nil ?_
          | refine s_move (by exact rfl) (by exact rfl) ?_
          | refine s_fa (by exact rfl) (by exact rfl) ?_
          | refine s_ld_box (by exact rfl) (by exact rfl) (by exact .tail _ (.head _)) (by exact rfl) ?_
          | refine s_idx (by exact rfl) (by exact rfl) (by exact rfl) (by assumption) (by first | assumption | omega) ?_
          | refine s_idxi (by exact rfl) (by exact rfl) (by exact rfl) (by assumption) (by first | assumption | omega) ?_
          | refine s_fap (by exact rfl) (by exact rfl) (by assumption) (by omega) ?_
          | refine s_ld_ro (by exact rfl) (by exact rfl) (by assumption) (by assumption) ?_
        refine o_st_row (i := 0) (by exact rfl) (by exact rfl) (by exact rfl) rfl (by omega) ?_
        repeat' first
          | refine k_then ?_
          | refine c_region ?_
          | refine s_nil ?_
          | refine s_move (by exact rfl) (by exact rfl) ?_
          | refine s_assign (by exact rfl) (by exact rfl) ?_
          | refine s_add (by exact rfl) (by exact rfl) (by exact rfl) (by omega) ?_
          | refine k_blk ?_
        refine c_round (k + 1) [0, 0] ?_ (by exact ⟨rfl, rfl, rfl, rfl, trivial⟩) (by omega) (by omega)
        rw [htk, List.foldl_append, hc, nV_set, nV_set]
        rfl
      · repeat' first
          | refine k_then ?_
          | refine c_seq ?_
          | refine c_region ?_
          | refine s_nil ?_
          | refine s_move (by exact rfl) (by exact rfl) ?_
          | refine s_assign (by exact rfl) (by exact rfl) ?_
          | refine s_fa (by exact rfl) (by exact rfl) ?_
          | refine s_ld_box (by exact rfl) (by exact rfl) (by exact .tail _ (.head _)) (by exact rfl) ?_
          | refine s_lss (by exact rfl) (by exact rfl) (by exact rfl) ?_
          | refine s_add (by exact rfl) (by exact rfl) (by exact rfl) (by omega) ?_
          | refine s_len (by exact rfl) (by exact rfl) (by assumption) ?_
          | refine c_exit ?_
          | refine k_then_exit ?_
          | refine k_blk ?_
          | refine k_blk_eq ?_
          | (refine c_cond_p (by exact rfl) (fun h => ?_) (fun h => ?_) <;> try (exfalso; omega))
        obtain rfl : k = es.length := by omega
        refine c_round (q + 1) [0, 0] (by rw [List.take_length, rounds, hc0]; rfl) (by exact ⟨rfl, rfl, rfl, trivial⟩) (by omega) (by omega)
    · repeat' first
        | refine k_then ?_
        | refine c_seq ?_
        | refine c_region ?_
        | refine s_nil ?_
        | refine s_move (by exact rfl) (by exact rfl) ?_
        | refine s_assign (by exact rfl) (by exact rfl) ?_
        | refine s_fa (by exact rfl) (by exact rfl) ?_
        | refine s_ld_box (by exact rfl) (by exact rfl) (by exact .tail _ (.head _)) (by exact rfl) ?_
        | refine s_lss (by exact rfl) (by exact rfl) (by exact rfl) ?_
        | refine c_exit ?_
        | refine c_ret ?_
        | refine k_then_exit ?_
        | refine k_blk_eq ?_
        | (refine c_cond_p (by exact rfl) (fun h => ?_) (fun h => ?_) <;> try (exfalso; omega))
      obtain rfl : q = i := by omega
      refine ret1 [0] rfl rfl rfl rfl
end Go.Proofs.Ytkekpgkacjpjnaa
end
section
namespace Fil
/-- the lists of those of labels below i -/
def compsI (N i : Nat) (lab : Nat → Nat) : List (List Nat) := ((List.range i).filter fun v => lab v == v).map fun r => (List.range N).filter fun u => lab u == r
abbrev compsS (N : Nat) (lab : Nat → Nat) : List (List Nat) := compsI N N lab
theorem Bfs.comps {N : Nat} {A : Nat → List Nat} {met : List Bool} {out : List Nat} {lab : Nat → Nat} (h : Bfs N A N met out lab []) : compsL N N met lab = compsS N lab := by
  apply List.map_congr_left
  intro r _
  apply List.filter_congr
  intro u hu
  rw [h.below u (by simpa using hu), Bool.true_and]
theorem compsI_next {N i : Nat} {lab : Nat → Nat} (h : lab i ≠ i) : compsI N (i + 1) lab = compsI N i lab := by
  have : (lab i == i) = false := by simpa using h
  rw [compsI, List.range_succ, List.filter_append]
  simp [this, compsI]
theorem compsI_add {N i : Nat} {lab : Nat → Nat} (h : lab i = i) : compsI N (i + 1) lab = compsI N i lab ++ [(List.range N).filter fun u => lab u == i] := by
  rw [compsI, List.range_succ, List.filter_append]
  simp [h, compsI]
theorem compsI_length (N i : Nat) (lab : Nat → Nat) : (compsI N i lab).length ≤ i := by
  rw [compsI, List.length_map]
  have := List.length_filter_le (fun v => lab v == v) (List.range i)
  rwa [List.length_range] at this
theorem compsS_congr {N : Nat} {lab lab' : Nat → Nat} (h : ∀ v, v < N → lab v = lab' v) : compsS N lab = compsS N lab' := by
  have e1 : (List.range N).filter (fun v => lab v == v) = (List.range N).filter fun v => lab' v == v := by
    apply List.filter_congr
    intro v hv
    rw [h v (by simpa using hv)]
  rw [compsS, compsS, compsI, compsI, e1]
  apply List.map_congr_left
  intro r _
  apply List.filter_congr
  intro u hu
  rw [h u (by simpa using hu)]
/-- one row, as far as u -/
theorem row_low {lab : Nat → Nat} {v : Nat} (hl : ∀ u, u < v → lab u ≤ u) : (List.range v).filter (fun u => lab u == v) = [] := by
  rw [List.filter_eq_nil_iff]
  intro u hu
  have hu : u < v := by simpa using hu
  have := hl u hu
  simp; omega
theorem row_add {lab : Nat → Nat} {u v : Nat} (h : lab u = v) : (List.range (u + 1)).filter (fun u => lab u == v) = (List.range u).filter (fun u => lab u == v) ++ [u] := by
  rw [List.range_succ, List.filter_append]
  simp [h]
theorem row_next {lab : Nat → Nat} {u v : Nat} (h : lab u ≠ v) : (List.range (u + 1)).filter (fun u => lab u == v) = (List.range u).filter (fun u => lab u == v) := by
  have : (lab u == v) = false := by simpa using h
  rw [List.range_succ, List.filter_append]
  simp [this]
theorem row_length (N v : Nat) (lab : Nat → Nat) : ((List.range N).filter fun u => lab u == v).length ≤ N := by
  have := List.length_filter_le (fun u => lab u == v) (List.range N)
  rwa [List.length_range] at this
/-- each list of it -/
theorem comp_mem {N : Nat} {lab : Nat → Nat} {c : List Nat} (h : c ∈ compsS N lab) : ∃ r, r < N ∧ lab r = r ∧ c = (List.range N).filter fun u => lab u == r := by
  obtain ⟨r, hr, rfl⟩ := List.mem_map.1 h
  obtain ⟨h1, h2⟩ := List.mem_filter.1 hr
  exact ⟨r, by simpa using h1, by simpa using h2, rfl⟩
theorem Lev.congr {N : Nat} {A B : Nat → List Nat} {o lab : Nat → Nat} (h : Lev N A o lab) (hAB : ∀ v, v < N → ∀ u, u ∈ A v ↔ u ∈ B v) : Lev N B o lab where
  edge w hw u hu := h.edge w hw u ((hAB w hw u).2 hu)
  up v k hv hk := by
    obtain ⟨u, hu, h2⟩ := h.up v k hv hk
    exact ⟨u, (hAB v hv u).1 hu, h2⟩
  root := h.root
  le := h.le
  idem := h.idem
  conn v hv c hc := h.conn v hv c fun w hw u hu => hc w hw u ((hAB w hw u).1 hu)
end Fil
end
section
namespace Go.Proofs.Ytkekpgkacjpjnaa
open Go.RowKit Go.Sl Fil
set_option maxRecDepth 100000
set_option maxHeartbeats 8000000
set_option linter.unusedVariables false
set_option linter.unusedSimpArgs false
attribute [local irreducible] Code.wp wpList bodyPost wpQuiet Exit.then Exit.inBlock Post wpAnyH wpOp
theorem refComps_ok (n : Int) (v : Value) (es : List E) (o lab : Nat → Nat) (w : World) (hs : Shp v es.length) (hr : RO w No v (esV es)) (hR : RightG n es) (hLev : Lev n.toNat (nb (tn es)) o lab) :
    Calls Try.prog 46 #[.agg #[.int .i64 n, v]] w (Post w No fun r L' => ∃ hr : List Value, hr.length = (compsS n.toNat lab).length ∧ L' = [rowHP r 27 1 (compsS n.toNat lab).length hr, starHP (kids rowN hr (compsS n.toNat lab))]) := by
  have hlo := hR.lo
  have hhi := hR.hi
  refine enter0 (vs := [_]) Try.func46 rfl Try.ntmps46 rfl ?_
  repeat' first
    | refine k_then ?_
    | refine c_seq ?_
    | refine c_region ?_
    | refine s_nil ?_
    | refine s_assign (by exact rfl) (by exact rfl) ?_
    | refine s_ldk_box (by exact rfl) (by exact rfl) (by exact .head _) (by exact rfl) (by exact rfl) ?_
    | refine o_box (by exact rfl) (by exact rfl) (fun b => ?_)
  refine o_call (by exact rfl) (by exact rfl) (fun w h => Labels_ok n v es w hs (ro_old h hr) hR) ?_
  rintro vl _ rfl
  refine know_row (v := vl) (.head _) fun hvl _ => ?_
  rw [ref_labels hR.good hLev]
  repeat' first
    | refine k_then ?_
    | refine c_seq ?_
    | refine c_region ?_
    | refine s_nil ?_
    | refine s_assign (by exact rfl) (by exact rfl) ?_
    | refine c_block ?_
  have hle := hLev.le
  generalize hN : n.toNat = N at *
  have hnN : n = (N : Int) := by omega
  subst hnN
  refine c_nil 27 1 ?_
  refine c_star0 ?_
  refine c_loop (fun x : Nat × Value × List Value => x.1 ≤ N ∧ x.2.2.length = (compsI N x.1 lab).length) (fun x => [(1, .pointer (some ⟨b, 0, none⟩)), (3, vl), (4, x.2.1), (5, .int .i64 (x.1 : Int))])
    (fun x => [rowHP x.2.1 27 1 (compsI N x.1 lab).length x.2.2, starHP (kids rowN x.2.2 (compsI N x.1 lab)), rowHP vl 3 1 N (nV ((List.range N).map lab)), boxHP b 24 [.int .i64 (N : Int), v]]) (fun x => N - x.1) (0, .slice none 0 0, []) [1, 0, 0, 0] ⟨Nat.zero_le _, rfl⟩ (by exact rfl) ⟨rfl, rfl, rfl, rfl, trivial⟩ ?_
  rintro ⟨i, vo, ho⟩ ⟨hi, hho⟩
  dsimp only at hi hho ⊢
  by_cases hil : i < N
  · have hli := nV_get (l := (List.range N).map lab) (k := i) (by simpa using hil)
    rw [show ((List.range N).map lab).getD i 0 = lab i from by simp [hil]] at hli
    by_cases hlab : lab i = i
    · have hadd := compsI_add (N := N) hlab
      have hcl := compsI_length N i lab
      generalize hcs : compsI N i lab = cs at *
      repeat' first
        | refine k_then ?_
        | refine c_seq ?_
        | refine c_region ?_
        | refine s_nil ?_
        | refine s_move (by exact rfl) (by exact rfl) ?_
        | refine s_assign (by exact rfl) (by exact rfl) ?_
        | refine s_fa (by exact rfl) (by exact rfl) ?_
        | refine s_ld_box (by exact rfl) (by exact rfl) (by exact .tail _ (.tail _ (.tail _ (.head _)))) (by exact rfl) ?_
        | refine s_lss (by exact rfl) (by exact rfl) (by exact rfl) ?_
        | refine s_neq (by exact rfl) (by exact rfl) (by exact rfl) ?_
        | refine s_idx (by exact rfl) (by exact rfl) (by exact rfl) (by assumption) (by first | assumption | omega) ?_
        | refine s_ld_row (by exact rfl) (by exact rfl) (by exact .tail _ (.tail _ (.head _))) (by assumption) ?_
        | refine c_block ?_
        | refine c_skip ?_
        | (refine c_cond_p (by exact rfl) (fun h => ?_) (fun h => ?_) <;> try (exfalso; omega))
      refine c_nil 3 1 ?_
      refine c_loop (fun x : Nat × Value => i ≤ x.1 ∧ x.1 ≤ N) (fun x => [(1, .pointer (some ⟨b, 0, none⟩)), (3, vl), (4, vo), (5, .int .i64 (i : Int)), (6, x.2), (7, .int .i64 (x.1 : Int))])
        (fun x => [rowHP x.2 3 1 ((List.range x.1).filter fun u => lab u == i).length (nV ((List.range x.1).filter fun u => lab u == i)), rowHP vo 27 1 cs.length ho, starHP (kids rowN ho cs), rowHP vl 3 1 N (nV ((List.range N).map lab)), boxHP b 24 [.int .i64 (N : Int), v]]) (fun x => N - x.1) (i, .slice none 0 0) [0, 0, 0, 0, 0] ⟨Nat.le_refl _, hi⟩ (by dsimp only; rw [row_low fun u hu => hle u (by omega)]; rfl) ⟨rfl, rfl, rfl, rfl, rfl, rfl, trivial⟩ ?_
      rintro ⟨u, vc⟩ ⟨hiu, hu⟩
      dsimp only at hiu hu ⊢
      by_cases hul : u < N
      · have hlu := nV_get (l := (List.range N).map lab) (k := u) (by simpa using hul)
        rw [show ((List.range N).map lab).getD u 0 = lab u from by simp [hul]] at hlu
        have hrl := row_length u i lab
        by_cases hlabu : lab u = i
        · have hra := row_add (u := u) hlabu
          generalize hrow : (List.range u).filter (fun u => lab u == i) = row at *
          repeat' first
            | refine k_then ?_
            | refine c_seq ?_
            | refine c_region ?_
            | refine s_nil ?_
            | refine s_move (by exact rfl) (by exact rfl) ?_
            | refine s_fa (by exact rfl) (by exact rfl) ?_
            | refine s_ld_box (by exact rfl) (by exact rfl) (by exact .tail _ (.tail _ (.tail _ (.tail _ (.head _))))) (by exact rfl) ?_
            | refine s_lss (by exact rfl) (by exact rfl) (by exact rfl) ?_
            | refine s_eql (by exact rfl) (by exact rfl) (by exact rfl) ?_
            | refine s_idx (by exact rfl) (by exact rfl) (by exact rfl) (by assumption) (by first | assumption | omega) ?_
            | refine s_ld_row (by exact rfl) (by exact rfl) (by exact .tail _ (.tail _ (.tail _ (.head _)))) (by assumption) ?_
            | refine c_block ?_
            | refine c_skip ?_
            | (refine c_cond_p (by exact rfl) (fun h => ?_) (fun h => ?_) <;> try (exfalso; omega))
          refine o_mk [.int .i64 (u : Int)] (by exact rfl) (by exact rfl) rfl ?_ ?_ (by simp) fun vt hvt => ?_
          · simp [Value.cells]
          · simp
          skip
          refine o_append_row (i := 1) (by exact rfl) (by exact rfl) (by exact rfl) (by exact rfl) (by exact .head _) (by exact rfl) (by simp [Value.cells, Value.oneCell']) ?_ fun vd hvd => ?_
          · omega
          repeat' first
            | refine k_then ?_
            | refine c_region ?_
            | refine s_nil ?_
            | refine s_move (by exact rfl) (by exact rfl) ?_
            | refine s_assign (by exact rfl) (by exact rfl) ?_
            | refine s_add (by exact rfl) (by exact rfl) (by exact rfl) (by omega) ?_
            | refine k_blk ?_
          refine c_round (u + 1, vd) [1, 1, 1, 1, 1] ?_ (by exact ⟨rfl, rfl, rfl, rfl, rfl, rfl, trivial⟩) (by dsimp only; omega) (by dsimp only; omega)
          dsimp only
          rw [hra]
          have e1 : rowHP vd 3 1 (row.length + 1) (nV row ++ [Value.int .i64 (u : Int)]) = rowHP vd 3 1 (row ++ [u]).length (nV (row ++ [u])) := by simp [nV]
          rw [← e1]
          rfl
        · have hrn := row_next (u := u) hlabu
          repeat' first
            | refine k_then ?_
            | refine c_seq ?_
            | refine c_region ?_
            | refine s_nil ?_
            | refine s_move (by exact rfl) (by exact rfl) ?_
            | refine s_assign (by exact rfl) (by exact rfl) ?_
            | refine s_fa (by exact rfl) (by exact rfl) ?_
            | refine s_ld_box (by exact rfl) (by exact rfl) (by exact .tail _ (.tail _ (.tail _ (.tail _ (.head _))))) (by exact rfl) ?_
            | refine s_lss (by exact rfl) (by exact rfl) (by exact rfl) ?_
            | refine s_eql (by exact rfl) (by exact rfl) (by exact rfl) ?_
            | refine s_add (by exact rfl) (by exact rfl) (by exact rfl) (by omega) ?_
            | refine s_idx (by exact rfl) (by exact rfl) (by exact rfl) (by assumption) (by first | assumption | omega) ?_
            | refine s_ld_row (by exact rfl) (by exact rfl) (by exact .tail _ (.tail _ (.tail _ (.head _)))) (by assumption) ?_
            | refine c_block ?_
            | refine c_skip ?_
            | refine k_blk ?_
            | (refine c_cond_p (by exact rfl) (fun h => ?_) (fun h => ?_) <;> try (exfalso; omega))
          refine c_round (u + 1, vc) [0, 0, 0, 0, 0] (by dsimp only; rw [hrn]; rfl) (by exact ⟨rfl, rfl, rfl, rfl, rfl, rfl, trivial⟩) (by dsimp only; omega) (by dsimp only; omega)
      · repeat' first
          | refine k_then ?_
          | refine c_seq ?_
          | refine c_region ?_
          | refine s_nil ?_
          | refine s_move (by exact rfl) (by exact rfl) ?_
          | refine s_fa (by exact rfl) (by exact rfl) ?_
          | refine s_ld_box (by exact rfl) (by exact rfl) (by exact .tail _ (.tail _ (.tail _ (.tail _ (.head _))))) (by exact rfl) ?_
          | refine s_lss (by exact rfl) (by exact rfl) (by exact rfl) ?_
          | refine c_exit ?_
          | refine k_then_exit ?_
          | refine k_blk_eq ?_
          | (refine c_cond_p (by exact rfl) (fun h => ?_) (fun h => ?_) <;> try (exfalso; omega))
        obtain rfl : u = N := by omega
        refine know_row (v := vc) (.head _) fun hvc _ => ?_
        refine o_mk [vc] (by exact rfl) (by exact rfl) rfl ?_ ?_ (by simp) fun vt hvt => ?_
        · intro u hu
          obtain rfl : u = vc := by simpa using hu
          rw [← Array.length_toList, one_cells hvc.one]; rfl
        · simp
        rw [show ([vc].flatMap fun u => u.cells.toList) = [vc] from by simp [one_cells hvc.one]]
        skip
        refine o_append_row (i := 2) (by exact rfl) (by exact rfl) (by exact rfl) (by exact rfl) (by exact .head _) (by exact rfl) (by simp [hvc.one]) ?_ fun vo2 hvo2 => ?_
        · omega
        repeat' first
          | refine k_then ?_
          | refine c_region ?_
          | refine s_nil ?_
          | refine s_move (by exact rfl) (by exact rfl) ?_
          | refine s_assign (by exact rfl) (by exact rfl) ?_
          | refine s_add (by exact rfl) (by exact rfl) (by exact rfl) (by omega) ?_
          | refine k_blk ?_
        have e1 : rowHP vc 3 1 ((List.range u).filter fun x => lab x == i).length (nV ((List.range u).filter fun x => lab x == i)) = rowN vc ((List.range u).filter fun x => lab x == i) := rfl
        refine c_pick [1, 1, 1, 1, 1] (by exact rfl) ?_
        rw [e1]
        refine c_pushk 1 (by exact rfl) ?_
        refine c_round (i + 1, vo2, ho ++ [vc]) [0, 0, 0, 0] ?_ (by exact ⟨rfl, rfl, rfl, rfl, trivial⟩) ⟨by dsimp only; omega, by dsimp only; rw [hadd, List.length_append, List.length_append, hho]; rfl⟩ (by dsimp only; omega)
        dsimp only
        rw [hadd, kids_append hho, List.length_append]
        rfl
    · have hnx := compsI_next (N := N) hlab
      repeat' first
        | refine k_then ?_
        | refine c_seq ?_
        | refine c_region ?_
        | refine s_nil ?_
        | refine s_move (by exact rfl) (by exact rfl) ?_
        | refine s_assign (by exact rfl) (by exact rfl) ?_
        | refine s_fa (by exact rfl) (by exact rfl) ?_
        | refine s_ld_box (by exact rfl) (by exact rfl) (by exact .tail _ (.tail _ (.tail _ (.head _)))) (by exact rfl) ?_
        | refine s_lss (by exact rfl) (by exact rfl) (by exact rfl) ?_
        | refine s_neq (by exact rfl) (by exact rfl) (by exact rfl) ?_
        | refine s_add (by exact rfl) (by exact rfl) (by exact rfl) (by omega) ?_
        | refine s_idx (by exact rfl) (by exact rfl) (by exact rfl) (by assumption) (by first | assumption | omega) ?_
        | refine s_ld_row (by exact rfl) (by exact rfl) (by exact .tail _ (.tail _ (.head _))) (by assumption) ?_
        | refine c_block ?_
        | refine c_skip ?_
        | refine c_exit ?_
        | refine k_then_exit ?_
        | refine k_blk_eq ?_
        | (refine c_cond_p (by exact rfl) (fun h => ?_) (fun h => ?_) <;> try (exfalso; omega))
      refine c_round (i + 1, vo, ho) [0, 0, 0, 0] (by dsimp only; rw [hnx]; rfl) (by exact ⟨rfl, rfl, rfl, rfl, trivial⟩) ⟨by omega, by dsimp only; rw [hnx]; exact hho⟩ (by dsimp only; omega)
  · repeat' first
      | refine k_then ?_
      | refine c_seq ?_
      | refine c_region ?_
      | refine s_nil ?_
      | refine s_move (by exact rfl) (by exact rfl) ?_
      | refine s_assign (by exact rfl) (by exact rfl) ?_
      | refine s_fa (by exact rfl) (by exact rfl) ?_
      | refine s_ld_box (by exact rfl) (by exact rfl) (by exact .tail _ (.tail _ (.tail _ (.head _)))) (by exact rfl) ?_
      | refine s_lss (by exact rfl) (by exact rfl) (by exact rfl) ?_
      | refine c_exit ?_
      | refine c_ret ?_
      | refine k_then_exit ?_
      | refine k_blk_eq ?_
      | (refine c_cond_p (by exact rfl) (fun h => ?_) (fun h => ?_) <;> try (exfalso; omega))
    obtain rfl : i = N := by omega
    refine ret1 [0, 0] rfl rfl rfl ⟨ho, hho, rfl⟩
end Go.Proofs.Ytkekpgkacjpjnaa
end
section
set_option linter.unusedVariables false
set_option linter.unusedSimpArgs false
namespace Go.Sl
open Go Go.RowKit
section
variable {P : Program} {w0 : World} {S0 : FS} {n : Nat} {F : List (Nat × Value)} {L Lk : List HP} {ops : Array Oper} {Q : Exit → Act → World → Prop}
/-- whatever order the operations of seg come up in, and behind them K -/
def wpSeg (P : Program) (ops : Array Oper) (Q : Exit → Act → World → Prop) (S : World → Prop) (seg : List Nat) (K : Array Bool → Act → World → Prop) : Nat → Array Bool → Act → World → Prop
  | 0, l, a, w => (∀ j ∈ seg, l.getD j true = true) ∧ K l a w
  | n + 1, l, a, w => Region.ready .any ops l ≠ [] ∧ ∀ i ∈ Region.ready .any ops l, i ∈ seg ∧ wpOp P ops Q i (fun a' w' => S w' ∧ wpSeg P ops Q S seg K n (l.setIfInBounds i true) a' w') a w
theorem wpSeg_any {S : World → Prop} {seg : List Nat} {m : Nat} : ∀ (k : Nat) (l : Array Bool) (a : Act) (w : World), wpSeg P ops Q S seg (wpAny P .any ops Q m) k l a w → wpAny P .any ops Q (m + k) l a w
  | 0, _, _, _, h => h.2
  | k + 1, l, a, w, h => ⟨fun e => absurd e h.1, fun i hi => wpOp_mono (fun a' w' h' => wpSeg_any k _ a' w' h'.2) (h.2 i hi).2⟩
theorem wpSeg_first {S : World → Prop} {seg : List Nat} {K : Array Bool → Act → World → Prop} {i : Nat} {oi : Oper} {v : Value} (hi : ops[i]? = some oi) (hsel : ∀ (j : Nat) (o : Oper) cs b, ops[j]? = some o → o.op ≠ .select cs b)
    (hQ : ∀ c a w, Q (.panic c) (a.put oi.dst v) w → Q (.panic c) a w) (hseg : i ∈ seg) (hdep : ∀ j oj, ops[j]? = some oj → j ∉ seg → ∃ e ∈ oj.after, Region.binds .any e = true ∧ e.on = i) :
    ∀ (k : Nat) (l : Array Bool) (a : Act) (w : World),
      (∀ j oj, ops[j]? = some oj → j ≠ i → l.getD j true = false → (∀ e ∈ oj.after, Region.binds .any e = true → e.on ≠ i) → oi.apart ops oj = true) →
      i ∈ Region.ready .any ops l → YieldsIf P ops S oi v a → S w →
      wpSeg P ops Q S seg K k (l.setIfInBounds i true) (a.put oi.dst v) w → wpSeg P ops Q S seg K (k + 1) l a w := by
  have waits : ∀ (l : Array Bool) (e : Edge), l.getD i true = false → e.on = i → l.getD e.on false = true → False := by
    intro l e h0 heq h1
    rw [heq] at h1
    rcases Nat.lt_or_ge i l.size with h' | h'
    · simp [h'] at h0 h1; rw [h0] at h1; cases h1
    · simp [Array.getElem?_eq_none h'] at h1
  intro k
  induction k with
  | zero =>
    intro l a w _ hr hy hS H
    refine ⟨fun e => (by rw [e] at hr; cases hr), fun j hj => ?_⟩
    by_cases hji : j = i
    · subst hji; exact ⟨hseg, hy.wpOp hi hS ⟨hS, H⟩⟩
    · exfalso
      obtain ⟨hun, oj, hoj, hall⟩ := mem_ready.1 hj
      by_cases hjs : j ∈ seg
      · have := H.1 j hjs
        rw [getD_set_ne true (Ne.symm hji), hun] at this
        cases this
      · obtain ⟨e, he, hb, heq⟩ := hdep j oj hoj hjs
        exact waits l e (mem_ready.1 hr).1 heq (hall e he hb)
  | succ k ih =>
    intro l a w hfree hr hy hS H
    refine ⟨fun e => (by rw [e] at hr; cases hr), fun j hj => ?_⟩
    by_cases hji : j = i
    · subst hji; exact ⟨hseg, hy.wpOp hi hS ⟨hS, H⟩⟩
    · obtain ⟨hjs, h1⟩ := H.2 j (ready_mono hj hji)
      refine ⟨hjs, ?_⟩
      obtain ⟨hun, oj, hoj, hall⟩ := mem_ready.1 hj
      have hnot : ∀ e ∈ oj.after, Region.binds .any e = true → e.on ≠ i := fun e he hb heq => waits l e (mem_ready.1 hr).1 heq (hall e he hb)
      have h2 := wpOp_putIf hoj (hfree j oj hoj hji hun hnot) (fun cs b => hsel i oi cs b hi) (fun cs b => hsel j oj cs b hoj) hQ hy h1
      refine wpOp_mono (fun a' w' h3 => ⟨h3.2.1, ih (l.setIfInBounds j true) a' w' (fun k ok hk hki hu hno => ?_) (ready_mono hr (Ne.symm hji)) h3.1 h3.2.1 ?_⟩) h2
      · refine hfree k ok hk hki ?_ hno
        by_cases hjk : j = k
        · subst hjk; exact hun
        · rw [getD_set_ne true hjk] at hu; exact hu
      · rw [Array.setIfInBounds_comm _ _ hji]
        exact h3.2.2
/-- the end of the first phase: what the second one asks -/
def cutK (P : Program) (ops : Array Oper) (Q : Exit → Act → World → Prop) (plan : List PI) : Exit → Act → World → Prop
  | .normal, a, w => ∃ S : World → Prop, S w ∧ PW P ops Q S plan a w
  | e, a, w => Q e a w
instance {plan : List PI} [T : PO Q] : PO (cutK P ops Q plan) := ⟨fun c a d v w h => T.ok c a d v w h⟩
theorem wpOp_cutK {plan : List PI} {i : Nat} {K : Act → World → Prop} {a : Act} {w : World} (h : wpOp P ops (cutK P ops Q plan) i K a w) : wpOp P ops Q i K a w := by
  unfold wpOp at *
  split
  · rename_i ho
    rw [ho] at h
    exact h
  · rename_i o ho
    rw [ho] at h
    dsimp only at h
    split
    · rename_i hw
      rw [if_pos hw] at h
      refine h.imp (fun h => ?_) (fun h => ⟨h.1, h.2⟩)
      unfold Oper.wp at *
      generalize (execOp a.eval o).run P w = r at *
      unfold Oper.upon at *
      split at h
      all_goals first
        | exact h
        | exact Calls.mono h fun e w'' he => by cases e <;> exact he
    · rename_i hw
      rw [if_neg hw] at h
      exact h
def PT.ids : PT → List Nat
  | .leaf => []
  | .one i a => i :: a.ids
  | .two i a j b => i :: j :: (a.ids ++ b.ids)
def segOf : List PI → List Nat
  | [] => []
  | .mk i _ :: l => i :: segOf l
  | .rd i j :: l => i :: j :: segOf l
  | .tree t :: l => t.ids ++ segOf l
def depsOk (ops : Array Oper) (seg : List Nat) (i : Nat) : Bool :=
  seg.contains i && (List.range ops.size).all fun j => seg.contains j || (match ops[j]? with | some o => o.after.any fun e => Region.binds .any e && e.on == i | none => true)
def treeOk1 (ops : Array Oper) (seg : List Nat) (k : Array Bool → Bool) : Array Bool → PT → Bool
  | listed, .leaf => k listed
  | listed, .one i a => seg.contains i && Region.ready .any ops listed == [i] && treeOk1 ops seg k (listed.setIfInBounds i true) a
  | listed, .two i a j b => seg.contains i && seg.contains j && (Region.ready .any ops listed == [i, j] || Region.ready .any ops listed == [j, i]) && a.n == b.n && treeOk1 ops seg k (listed.setIfInBounds i true) a && treeOk1 ops seg k (listed.setIfInBounds j true) b
def planOk1 (ops : Array Oper) (seg : List Nat) (plan2 : List PI) : Array Bool → List PI → Bool
  | listed, [] => seg.all (fun j => listed.getD j true) && planOk ops listed plan2
  | listed, .rd _ _ :: _ => false
  | listed, .tree t :: rest => treeOk1 ops seg (fun l => planOk1 ops seg plan2 l rest) listed t
  | listed, .mk i t :: rest => (if t then (Region.ready .any ops listed).contains i && Region.free .any ops listed i && depsOk ops seg i else seg.contains i && Region.ready .any ops listed == [i]) && planOk1 ops seg plan2 (listed.setIfInBounds i true) rest
theorem pwt_sound1 {S : World → Prop} {plan2 : List PI} {seg : List Nat} {K : Act → World → Prop} {KK : Array Bool → Act → World → Prop} {k : Array Bool → Bool} {m : Nat} (hk : ∀ l a w, k l = true → K a w → wpSeg P ops Q S seg KK m l a w) : ∀ (t : PT) (listed : Array Bool) (a : Act) (w : World), treeOk1 ops seg k listed t = true → PWt P ops (cutK P ops Q plan2) S K t a w → wpSeg P ops Q S seg KK (m + t.n) listed a w
  | .leaf, listed, a, w, hp, h => hk listed a w hp h
  | .one i t, listed, a, w, hp, h => by
    simp only [treeOk1, Bool.and_eq_true] at hp
    have e : Region.ready .any ops listed = [i] := by simpa using hp.1.2
    refine ⟨by rw [e]; simp, fun j hj => ?_⟩
    rw [e] at hj
    obtain rfl : j = i := by simpa using hj
    exact ⟨by simpa using hp.1.1, wpOp_mono (fun a' w' ⟨h1, h2⟩ => ⟨h1, pwt_sound1 hk t _ _ _ hp.2 h2⟩) (wpOp_cutK h)⟩
  | .two i t j u, listed, a, w, hp, h => by
    simp only [treeOk1, Bool.and_eq_true, Bool.or_eq_true, beq_iff_eq] at hp
    obtain ⟨⟨⟨⟨⟨s1, s2⟩, h1⟩, h2⟩, h3⟩, h4⟩ := hp
    have key : ∀ k, k = i ∨ k = j → k ∈ seg ∧ wpOp P ops Q k (fun a' w' => S w' ∧ wpSeg P ops Q S seg KK (m + t.n) (listed.setIfInBounds k true) a' w') a w := by
      rintro k (rfl | rfl)
      · exact ⟨by simpa using s1, wpOp_mono (fun a' w' ⟨h5, h6⟩ => ⟨h5, pwt_sound1 hk t _ _ _ h3 h6⟩) (wpOp_cutK h.1)⟩
      · rw [h2]
        exact ⟨by simpa using s2, wpOp_mono (fun a' w' ⟨h5, h6⟩ => ⟨h5, pwt_sound1 hk u _ _ _ h4 h6⟩) (wpOp_cutK h.2)⟩
    rcases h1 with h1 | h1
    · exact ⟨by rw [h1]; simp, fun k hk => key k (by rw [h1] at hk; simpa using hk)⟩
    · exact ⟨by rw [h1]; simp, fun k hk => key k (by rw [h1] at hk; simpa [or_comm] using hk)⟩
theorem pw_sound1 [T : PO Q] {S : World → Prop} {seg : List Nat} {plan2 : List PI} (hs : Region.noSelect ops = true) : ∀ (plan : List PI) (listed : Array Bool) (a : Act) (w : World), planOk1 ops seg plan2 listed plan = true → PW P ops (cutK P ops Q plan2) S plan a w → wpSeg P ops Q S seg (wpAny P .any ops Q (planLen plan2)) (planLen plan) listed a w
  | [], listed, a, w, hp, h => by
    simp only [planOk1, Bool.and_eq_true, List.all_eq_true] at hp
    obtain ⟨S', hS', h⟩ := h
    exact ⟨hp.1, wpAny_of_held _ _ _ _ (pw_sound hs plan2 _ _ _ hp.2 h)⟩
  | .rd i j :: rest, listed, a, w, hp, h => by simp [planOk1] at hp
  | .tree t :: rest, listed, a, w, hp, h => by
    show wpSeg P ops Q S seg _ (planLen rest + t.n) listed a w
    exact pwt_sound1 (fun l a w hl hK => pw_sound1 hs rest l a w hl hK) t listed a w hp h
  | .mk i true :: rest, listed, a, w, hp, h => by
    obtain ⟨o, v, ho, hy, hS, hr⟩ := h
    simp only [planOk1, if_true, Bool.and_eq_true, depsOk, List.all_eq_true, Bool.or_eq_true] at hp
    obtain ⟨⟨⟨h1, h2⟩, h3, h4⟩, h5⟩ := hp
    refine wpSeg_first ho (Region.noSelect_spec hs) (fun c a w h => T.ok c a _ _ w h) (by simpa using h3) (fun j oj hoj hjs => ?_) (planLen rest) listed a w (Region.free_spec ho h2) (by simpa using h1) hy hS (pw_sound1 hs rest _ _ _ h5 hr)
    have := h4 j (by simpa using (Array.getElem?_eq_some_iff.1 hoj).1)
    rcases this with h | h
    · exact absurd (by simpa using h) hjs
    · rw [hoj] at h
      dsimp only at h
      rw [← Array.any_toList, List.any_eq_true] at h
      obtain ⟨e, h1, h2⟩ := h
      simp only [Bool.and_eq_true, beq_iff_eq] at h2
      exact ⟨e, by simpa using h1, h2.1, h2.2⟩
  | .mk i false :: rest, listed, a, w, hp, h => by
    simp only [planOk1, Bool.and_eq_true, Bool.false_eq_true, if_false] at hp
    have e : Region.ready .any ops listed = [i] := by simpa using hp.1.2
    refine ⟨by rw [e]; simp, fun j hj => ?_⟩
    rw [e] at hj
    obtain rfl : j = i := by simpa using hj
    exact ⟨by simpa using hp.1.1, wpOp_mono (fun a' w' ⟨h1, h2⟩ => ⟨h1, pw_sound1 hs rest _ _ _ hp.2 h2⟩) (wpOp_cutK h)⟩
/-- two plans, one behind the other: Lk holds during the first -/
theorem p_begin2 [T : PO Q] {id : Nat} {l : List Oper} (plan1 plan2 : List PI) (Lk : List HP) (hm : (P.follows .mixedOrders && Region.noSelect l.toArray && planOk1 l.toArray (segOf plan1) plan2 (Array.replicate l.toArray.size false) plan1 && (planLen plan2 + planLen plan1 == l.toArray.size)) = true)
    (h : RP P w0 S0 n l.toArray (cutK P l.toArray Q plan2) Lk plan1 F L) : Reach w0 S0 n F L ((Code.region id l.toArray true).wp P Q) := by
  simp only [Bool.and_eq_true, beq_iff_eq] at hm
  obtain ⟨⟨⟨h1, h2⟩, h3⟩, h4⟩ := hm
  intro a w hf hs
  refine wp_region_any h1 ?_
  have := wpSeg_any _ _ _ _ (pw_sound1 (Q := Q) h2 plan1 _ _ _ h3 (h a _ hf hs.drew))
  rwa [h4] at this
theorem p_cut {plan : List PI} (Lk : List HP) (hL : ∀ w, St w0 S0 L w → St w0 S0 Lk w) (h : RP P w0 S0 n ops Q Lk plan F L) : Reach w0 S0 n F L (cutK P ops Q plan .normal) :=
  fun a w hf hs => ⟨St w0 S0 Lk, hL w hs, h a w hf hs⟩
end
end Go.Sl
end
section
namespace Go.Proofs.Ytkekpgkacjpjnaa
open Go.RowKit Go.Sl Fil
set_option maxRecDepth 100000
set_option maxHeartbeats 8000000
set_option linter.unusedVariables false
set_option linter.unusedSimpArgs false
attribute [local irreducible] Code.wp wpList bodyPost wpQuiet Exit.then Exit.inBlock Post wpAnyH wpOp
end Go.Proofs.Ytkekpgkacjpjnaa
end
section
namespace Go.Proofs.Ytkekpgkacjpjnaa
open Go.RowKit Go.Sl Fil
set_option maxRecDepth 100000
set_option maxHeartbeats 8000000
set_option linter.unusedVariables false
set_option linter.unusedSimpArgs false
attribute [local irreducible] Code.wp wpList bodyPost wpQuiet Exit.then Exit.inBlock Post wpAnyH wpOp
end Go.Proofs.Ytkekpgkacjpjnaa
end
section
namespace Fil
def ab (l : List (Nat × Nat)) (u : Nat) : List (Nat × Nat) := l.zipIdx.filterMap fun p => if p.1.1 = u then some (p.1.2, p.2) else if p.1.2 = u then some (p.1.1, p.2) else none
def arcsL (N : Nat) (l : List (Nat × Nat)) : List (List (Nat × Nat)) := (List.range N).map (ab l)
theorem ab_snoc (l : List (Nat × Nat)) (e : Nat × Nat) (u : Nat) : ab (l ++ [e]) u = ab l u ++ (if e.1 = u then [(e.2, l.length)] else if e.2 = u then [(e.1, l.length)] else []) := by
  simp only [ab, List.zipIdx_append, List.filterMap_append, List.zipIdx_cons, List.zipIdx_nil, List.filterMap_cons, List.filterMap_nil, Nat.zero_add]
  split <;> (try split) <;> simp_all <;> split <;> simp_all
theorem ab_fst (l : List (Nat × Nat)) (u : Nat) : (ab l u).map Prod.fst = nb l u := by
  have key : ∀ (l : List (Nat × Nat)) (k : Nat), ((l.zipIdx k).filterMap fun p => if p.1.1 = u then some (p.1.2, p.2) else if p.1.2 = u then some (p.1.1, p.2) else none).map Prod.fst = nb l u := by
    intro l
    induction l with
    | nil => intro k; rfl
    | cons e l ih =>
      intro k
      simp only [List.zipIdx_cons, List.filterMap_cons, nb]
      have := ih (k + 1)
      simp only [nb] at this
      by_cases h1 : e.1 = u
      · simp [h1, this]
      · by_cases h2 : e.2 = u
        · simp [h1, h2, this]
        · simp [h1, h2, this]
  exact key l 0
theorem ab_length (l : List (Nat × Nat)) (u : Nat) : (ab l u).length ≤ l.length := by
  have := nb_length l u
  rw [← ab_fst, List.length_map] at this
  exact this
theorem arcs_snoc {N : Nat} {l : List (Nat × Nat)} {u v : Nat} (hu : u < N) (hv : v < N) (hne : u ≠ v) : arcsL N (l ++ [(u, v)]) = ((arcsL N l).set u (ab l u ++ [(v, l.length)])).set v (ab l v ++ [(u, l.length)]) := by
  apply List.ext_getElem?
  intro k
  simp only [arcsL, List.getElem?_set, List.getElem?_map, List.length_set, List.length_map, List.length_range]
  by_cases hk : k < N
  · rw [List.getElem?_eq_getElem (by simpa using hk)]
    simp only [List.getElem_range, Option.map_some, ab_snoc]
    by_cases h1 : u = k
    · subst h1
      simp [Ne.symm hne, hu]
    · by_cases h2 : v = k
      · subst h2
        simp [hv, h1]
      · simp [h1, h2]
  · rw [List.getElem?_eq_none (by simpa using hk)]
    have h1 : u ≠ k := by omega
    have h2 : v ≠ k := by omega
    simp [h1, h2]
theorem arcs_get {N : Nat} {l : List (Nat × Nat)} {u : Nat} (hu : u < N) : (arcsL N l)[u]? = some (ab l u) := by simp [arcsL, hu]
theorem arcs_zero (N : Nat) : arcsL N [] = List.replicate N [] := by
  have : ab [] = fun _ => [] := rfl
  rw [arcsL, this, List.map_const', List.length_range]
theorem tn_length (es : List E) : (tn es).length = es.length := by simp [tn]
end Fil
end
