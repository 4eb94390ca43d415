/- Regions that draw their order and hold operations that change memory: what only computes or reads is taken first; of the others each order. -/
import Derived.Test.YtkekpgkacjpjnaaSlStep
set_option linter.unusedVariables false
set_option linter.unusedSimpArgs false
namespace Go.Sl
open Go Go.RowKit

/-- What is asked of a post: what it says of a panic doesn't hang on the temporaries. -/
class PO (Q : Exit → Act → World → Prop) : Prop where
  ok : ∀ c (a : Act) d v w, Q (.panic c) (a.put d v) w → Q (.panic c) a w
instance {P : Program} {fn : Func} {R : Ending → World → Prop} : PO (bodyPost P fn R) := ⟨fun c a d v w h => by cases d <;> exact h⟩
instance {K : Act → World → Prop} {Q : Exit → Act → World → Prop} [T : PO Q] : PO (Exit.then K Q) := ⟨fun c a d v w h => T.ok c a d v w h⟩
instance {id : Nat} {Q : Exit → Act → World → Prop} [T : PO Q] : PO (Exit.inBlock id Q) := ⟨fun c a d v w h => T.ok c a d v w h⟩

/-- operations that can be taken first -/
def tame : Op → Bool
  | .move _ | .assign _ | .pick .. | .load .. | .binOp .. | .unOp .. | .fieldAddr .. | .field .. | .indexAddr .. | .index .. | .extract .. | .convert .. | .slice .. | .lookup .. => true
  | .call { callee := .builtin .len, .. } | .call { callee := .builtin .min, .. } | .call { callee := .builtin .max, .. } | .call { callee := .builtin .cap, .. } => true
  | _ => false

def nextq (ops : Array Oper) (listed : Array Bool) : Option Nat :=
  (List.range ops.size).find? fun i => (Region.ready .any ops listed).contains i && Region.free .any ops listed i && (match ops[i]? with | some o => tame o.op | none => false)

section
variable {P : Program} {w0 : World} {S0 : FS} {n : Nat} {F : List (Nat × Value)} {L Lk : List HP} {o : Oper} {ops : Array Oper} {Q : Exit → Act → World → Prop} {d i k : Nat} {v : Value} {listed : Array Bool}

def RA (P : Program) (w0 : World) (S0 : FS) (n : Nat) (ops : Array Oper) (Q : Exit → Act → World → Prop) (Lk : List HP) (k : Nat) (listed : Array Bool) (F : List (Nat × Value)) (L : List HP) : Prop :=
  Reach w0 S0 n F L (fun a w => wpAnyH P .any ops Q (St w0 S0 Lk) k listed a w)

theorem a_begin {id : Nat} {l : List Oper} (Lk : List HP) (hm : P.follows .mixedOrders = true) (h : RA P w0 S0 n l.toArray Q Lk l.toArray.size (Array.replicate l.toArray.size false) F L) : Reach w0 S0 n F L ((Code.region id l.toArray true).wp P Q) :=
  fun a w hf hs => wp_region_held hm (h a _ hf hs.drew)

theorem a_begin0 {id m : Nat} {l : List Oper} (hm : P.follows .mixedOrders = true) (hl : Nat.beq l.length m = true) (h : RA P w0 S0 n l.toArray Q L m (Array.replicate m false) F L) : Reach w0 S0 n F L ((Code.region id l.toArray true).wp P Q) := by
  have e : l.toArray.size = m := by simpa using Nat.eq_of_beq_eq_true hl
  exact a_begin L hm (by rw [e]; exact h)

theorem a_done (hr : Region.ready .any ops listed = []) (h : Reach w0 S0 n F L (Q .normal)) : RA P w0 S0 n ops Q Lk k listed F L :=
  fun a w hf hs => wpAnyH_done hr (h a w hf hs) k

theorem nextq_spec (h : nextq ops listed = some i) : (Region.ready .any ops listed).contains i = true ∧ Region.free .any ops listed i = true := by
  have := List.find?_some h
  simp only [Bool.and_eq_true] at this
  exact ⟨this.1.1, this.1.2⟩

theorem a_q [T : PO Q] (hs : Region.noSelect ops = true) (hi : nextq ops listed = some i) (ho : ops[i]? = some o) (hg : o.guard = none) (hd : o.dst = some d) (hn : Nat.blt d n = true) (hL : ∀ w, St w0 S0 L w → St w0 S0 Lk w) (hq : R1 P w0 S0 n F Lk o v)
    (h : RA P w0 S0 n ops Q Lk k (listed.setIfInBounds i true) ((d, v) :: F) L) : RA P w0 S0 n ops Q Lk (k + 1) listed F L := by
  intro a w hf hst
  refine wpAnyH_take ho hs (nextq_spec hi).2 (nextq_spec hi).1 (fun c a w h => T.ok c a _ _ w h) (v := v) (.inl ⟨by simp [Region.wanted, hg], fun w' hw' => hq a hf w' hw'⟩) (hL _ hst) ?_
  exact h _ _ (by rw [hd]; exact hf.put hn) hst

theorem a_want [T : PO Q] {t : Nat} {want : Bool} (hs : Region.noSelect ops = true) (hi : nextq ops listed = some i) (ho : ops[i]? = some o) (hg : gslot ops o = some (t, want)) (ht : fget F t = some (.bool want)) (hd : o.dst = some d) (hn : Nat.blt d n = true) (hL : ∀ w, St w0 S0 L w → St w0 S0 Lk w) (hq : R1 P w0 S0 n F Lk o v)
    (h : RA P w0 S0 n ops Q Lk k (listed.setIfInBounds i true) ((d, v) :: F) L) : RA P w0 S0 n ops Q Lk (k + 1) listed F L := by
  intro a w hf hst
  refine wpAnyH_take ho hs (nextq_spec hi).2 (nextq_spec hi).1 (fun c a w h => T.ok c a _ _ w h) (v := v) (.inl ⟨by rw [wanted_of hf hg ht]; simp, fun w' hw' => hq a hf w' hw'⟩) (hL _ hst) ?_
  exact h _ _ (by rw [hd]; exact hf.put hn) hst

theorem a_skip [T : PO Q] {t : Nat} {want : Bool} {u0 : Value} (hs : Region.noSelect ops = true) (hi : nextq ops listed = some i) (ho : ops[i]? = some o) (hg : gslot ops o = some (t, want)) (ht : fget F t = some u0) (hb : skips u0 want = true) (hd : o.dst = some d) (hn : Nat.blt d n = true) (hL : ∀ w, St w0 S0 L w → St w0 S0 Lk w)
    (h : RA P w0 S0 n ops Q Lk k (listed.setIfInBounds i true) ((d, undef) :: F) L) : RA P w0 S0 n ops Q Lk (k + 1) listed F L := by
  intro a w hf hst
  refine wpAnyH_take ho hs (nextq_spec hi).2 (nextq_spec hi).1 (fun c a w h => T.ok c a _ _ w h) (v := undef) (.inr ⟨unwanted_of hf hg ht hb, rfl⟩) (hL _ hst) ?_
  exact h _ _ (by rw [hd]; exact hf.put hn) hst

theorem a_case {t : Nat} {want : Bool} {p : Prop} [Decidable p] (hi : nextq ops listed = some i) (ho : ops[i]? = some o) (hg : gslot ops o = some (t, want)) (ht : fget F t = some (.bool (decide p)))
    (h1 : p → RA P w0 S0 n ops Q Lk k listed ((t, .bool true) :: F) L) (h2 : ¬ p → RA P w0 S0 n ops Q Lk k listed ((t, .bool false) :: F) L) : RA P w0 S0 n ops Q Lk k listed F L := by
  intro a w hf hs
  by_cases hp : p
  · exact h1 hp a w (hf.known ht (decide_eq_true hp)) hs
  · exact h2 hp a w (hf.known ht (decide_eq_false hp)) hs

/-- operation i comes up -/
def Up (P : Program) (w0 : World) (S0 : FS) (n : Nat) (ops : Array Oper) (Q : Exit → Act → World → Prop) (Lk : List HP) (k : Nat) (listed : Array Bool) (F : List (Nat × Value)) (L : List HP) (i : Nat) : Prop :=
  Reach w0 S0 n F L (fun a w => wpOp P ops Q i (fun a' w' => St w0 S0 Lk w' ∧ wpAnyH P .any ops Q (St w0 S0 Lk) k (listed.setIfInBounds i true) a' w') a w)

def Ups (P : Program) (w0 : World) (S0 : FS) (n : Nat) (ops : Array Oper) (Q : Exit → Act → World → Prop) (Lk : List HP) (k : Nat) (listed : Array Bool) (F : List (Nat × Value)) (L : List HP) : List Nat → Prop
  | [] => True
  | i :: is => Up P w0 S0 n ops Q Lk k listed F L i ∧ Ups P w0 S0 n ops Q Lk k listed F L is

theorem ups_spec : ∀ {is : List Nat}, Ups P w0 S0 n ops Q Lk k listed F L is → ∀ i ∈ is, Up P w0 S0 n ops Q Lk k listed F L i
  | [], _, _, h => by simp at h
  | j :: is, ⟨h1, h2⟩, i, h => by
    rcases List.mem_cons.1 h with rfl | h
    · exact h1
    · exact ups_spec h2 i h

/-- each that may come up now -/
theorem a_all {is : List Nat} (hr : Region.ready .any ops listed = is) (hne : is.isEmpty = false) (h : Ups P w0 S0 n ops Q Lk k listed F L is) : RA P w0 S0 n ops Q Lk (k + 1) listed F L := by
  intro a w hf hs
  refine wpAnyH_all hr (fun e => by rw [e] at hne; simp at hne) fun i hi => ups_spec h i hi a w hf hs

theorem a_one (hr : Region.ready .any ops listed = [i]) (h : Up P w0 S0 n ops Q Lk k listed F L i) : RA P w0 S0 n ops Q Lk (k + 1) listed F L := a_all hr rfl ⟨h, trivial⟩
theorem a_two {j : Nat} (hr : Region.ready .any ops listed = [i, j]) (h : Up P w0 S0 n ops Q Lk k listed F L i) (h' : Up P w0 S0 n ops Q Lk k listed F L j) : RA P w0 S0 n ops Q Lk (k + 1) listed F L := a_all hr rfl ⟨h, h', trivial⟩
theorem a_three {j l : Nat} (hr : Region.ready .any ops listed = [i, j, l]) (h : Up P w0 S0 n ops Q Lk k listed F L i) (h' : Up P w0 S0 n ops Q Lk k listed F L j) (h'' : Up P w0 S0 n ops Q Lk k listed F L l) : RA P w0 S0 n ops Q Lk (k + 1) listed F L := a_all hr rfl ⟨h, h', h'', trivial⟩

theorem up_l (ho : ops[i]? = some o) (hg : o.guard = none)
    (h : ∀ R : Act → World → Prop, (∀ F' L', (∀ w, St w0 S0 L' w → St w0 S0 Lk w) → RA P w0 S0 n ops Q Lk k (listed.setIfInBounds i true) F' L' → Reach w0 S0 n F' L' R) → Reach w0 S0 n F L (fun a w => o.wp P a w R Q)) : Up P w0 S0 n ops Q Lk k listed F L i := by
  intro a w hf hs
  show wpOp P ops Q i _ a w
  unfold wpOp
  rw [ho]
  simp only [Region.wanted, hg, if_true]
  refine .inl (h (fun a' w' => St w0 S0 Lk w' ∧ wpAnyH P .any ops Q (St w0 S0 Lk) k (listed.setIfInBounds i true) a' w') ?_ a w hf hs)
  rintro F' L' hp hra a' w' hf' hs'
  exact ⟨hp _ hs', hra a' w' hf' hs'⟩

/-- a quiet one, as one that comes up -/
theorem l_q {R : Act → World → Prop} (hd : o.dst = some d) (hn : Nat.blt d n = true) (hq : Q1 P w0 S0 n F L o v) (h : Reach w0 S0 n ((d, v) :: F) L R) : Reach w0 S0 n F L (fun a w => o.wp P a w R Q) := by
  intro a w hf hs
  refine Oper.wp_of_quiet (C := St w0 S0 L) (K := fun a' => a' = a.put o.dst v) hs (fun a' w' hs' e => ?_) ⟨v, fun w hs => hq a hf w hs, rfl⟩
  subst e
  exact h _ _ (by rw [hd]; exact hf.put hn) hs'

/-- a call that is quiet, in any order -/
theorem up_call {f : FuncId} {xs : Array Operand} {ts : Array TypeId} {vs : List Value} {u : Value} {ty : TypeId} {ps : String} {af : Array Edge} [T : FnTy P f] (ho : ops[i]? = some ⟨some d, .call { callee := .value (.func f), args := xs, argTypes := ts }, ty, ps, af, none⟩) (hn : Nat.blt d n = true) (hvs : xs.toList.map (ev F) = vs.map some)
    (hc : ∀ w, St w0 S0 L w → Calls P f vs.toArray w (Post w No (Just u))) (hL : ∀ w, St w0 S0 L w → St w0 S0 Lk w) (h : RA P w0 S0 n ops Q Lk k (listed.setIfInBounds i true) ((d, u) :: F) L) : Up P w0 S0 n ops Q Lk k listed F L i :=
  up_l ho rfl fun R hR => l_q rfl hn (q_call rfl hvs hc) (hR _ _ hL h)

theorem up_call' {f : FuncId} {xs : Array Operand} {ts : Array TypeId} {vs : List Value} {G : Value → List HP → Prop} {ty : TypeId} {ps : String} {af : Array Edge} [T : FnTy P f] (ho : ops[i]? = some ⟨some d, .call { callee := .value (.func f), args := xs, argTypes := ts }, ty, ps, af, none⟩) (hn : Nat.blt d n = true) (hvs : xs.toList.map (ev F) = vs.map some)
    (hc : ∀ w, St w0 S0 L w → Calls P f vs.toArray w (Post w No G)) (h : ∀ v L', G v L' → (∀ w, St w0 S0 (L' ++ L) w → St w0 S0 Lk w) ∧ RA P w0 S0 n ops Q Lk k (listed.setIfInBounds i true) ((d, v) :: F) (L' ++ L)) : Up P w0 S0 n ops Q Lk k listed F L i :=
  up_l ho rfl fun R hR => l_call0 rfl rfl hn hvs hc fun v L' g => hR _ _ (h v L' g).1 (h v L' g).2

theorem up_mkrow {parts : Array (Nat × Operand)} {t e : TypeId} {c sz : Nat} {cs : List Value} {ty : TypeId} {ps : String} {af : Array Edge} (ho : ops[i]? = some ⟨some d, .buildSlice t c parts, ty, ps, af, none⟩) (hn : Nat.blt d n = true)
    (hb : ∀ a, Fr F n a → ∀ w, (Instr.buildSlice t c (parts.map fun (i, x) => (i, a.eval x))).run P w = .ok (.slice (some ⟨w.heap.size, 0, none⟩) c c) (w.alloc (.cells cs.toArray e (0, 0)))) (hl : cs.length = c * sz) (hk : c ≤ maxLen)
    (hL : ∀ w (A : HP), St w0 S0 (A :: L) w → St w0 S0 Lk w) (h : ∀ v, Shp v c → RA P w0 S0 n ops Q Lk k (listed.setIfInBounds i true) ((d, v) :: F) (rowHP v e sz c cs :: L)) : Up P w0 S0 n ops Q Lk k listed F L i :=
  up_l ho rfl fun R hR => l_mkrow rfl rfl hn hb hl hk fun v hv => hR _ _ (fun w => hL w _) (h v hv)
end
end Go.Sl
