/- Of TextNumbers: part 3: what the walks rest on, contracts of functions and plain lemmas; no condition but those that each states. -/
import Derived.Test.YtllkoinbfegonaaDoorTn2
import Derived.RangeFuncIn
import Derived.RangeFuncRecord
import Derived.RangeFuncLeaves
import Derived.RangeFuncCalls
import Derived.Sort.LoopGhostIn
import Derived.Shelf.SortM.Plain
import Derived.Shelf.SortM.SortNone
import Derived.Shelf.SlGeneric
import Derived.Ground.SlgmProg
import Derived.Sort.OwnSortedInts
import Derived.DeepKeys4
import Derived.ProofKit
import Derived.Shelf.SlSortCmp.NoneTotal
import Derived.Laws.StructEq
import Derived.Shelf.Strconv.Itoa3
import Derived.Deep.Slices
import Derived.Deep.Strs
import Derived.ChangeSame
import Derived.Lib.SmallJoins
import Derived.Test.YtllkoinbfegonaaDoorRows
import Derived.ChangeVars
import Derived.JoinedOf
import Derived.LaidLaws
import Derived.LaidHandle
import Derived.Lib.LaidTab
import Derived.Stop.Joined
import Derived.WalkSmall
import Derived.Handed
import Derived.Shelf.Vars
set_option linter.unusedVariables false
set_option linter.unusedSimpArgs false
section
set_option linter.unusedVariables false
set_option linter.unusedSimpArgs false
namespace Go.Sl
open Go Go.RowKit
section
variable {P : Program} {w0 : World} {S0 : FS} {n : Nat} {F : List (Nat × Value)} {L : List HP} {o : Oper} {rest : List Oper} {ops : Array Oper} {Q : Exit → Act → World → Prop} {c : Operand}
/-- a closure is deferred -/
theorem s_defer {fv : Fn} {pre caps : List Value} {ty : TypeId} {ps : String} {af : Array Edge} {ts : Array TypeId} (hc : ev F c = some (.func fv pre.toArray caps.toArray))
    (h : ∀ iD : HasD n, @HasD.D n iD = [{ target := .fn fv caps.toArray, args := pre.toArray }] → @Reach w0 S0 n iD F L (wpList P ops Q rest)) :
    @Reach w0 S0 n (noD n) F L (wpList P ops Q (⟨none, .defer { callee := .value c, args := #[], argTypes := ts }, ty, ps, af, none⟩ :: rest)) := by
  intro a w hf hs
  refine wpList_plain rfl fun K hK => ?_
  have e : (execOp a.eval ⟨none, .defer { callee := .value c, args := #[], argTypes := ts }, ty, ps, af, none⟩).run P w = .ok (.defer { target := .fn fv caps.toArray, args := pre.toArray }) w := by
    have hx := hf.eval hc
    simp only [execOp, resolve, hx, Deferred.ofValue, Sem.run_bind, Sem.run_pure, Result.andThen_ok]
    simp
  show Oper.upon P _ a K Q _
  rw [e]
  show K _ w
  refine hK _ _ ?_
  have hd : a.defers = [] := hf.df
  have hsz := hf.sz
  have hlk := hf.look
  let iD : HasD n := ⟨[{ target := .fn fv caps.toArray, args := pre.toArray }]⟩
  refine h iD rfl _ w (@Fr.mk F n iD _ ?_ hsz hlk) hs
  show _ :: a.defers = _
  rw [hd]
  rfl
theorem enterD {f : FuncId} {fn : Func} {c : Code} {vs : List Value} {w : World} {S : FS} {R : Ending → World → Prop} {L0 : List HP} (hf : P.funcs[f]? = some fn) (hb : fn.body = some c) (hn : fn.ntmps = n) (hl : Nat.ble vs.length n = true) (hL : sats L0 S w)
    (h : Reach w S n (argsF 0 vs) L0 (c.wp P (bodyPostD P fn R))) : Calls P f vs.toArray w R := by
  refine calls_of_wp_defers hf hb (h _ _ ⟨rfl, ?_, ?_⟩ (St.start hL))
  · have : vs.length ≤ n := by simpa using hl
    simp [hn]; omega
  · intro t u ht
    obtain ⟨j, rfl, hj⟩ := argsF_get vs 0 t u ht
    have hlt := (List.getElem?_eq_some_iff.1 hj).1
    simp only [Nat.zero_add, Array.getD_eq_getD_getElem?]
    rw [Array.getElem?_append_left (by simpa using hlt)]
    simp [hj]
end
theorem p_beginx0 {P : Program} {w0 : World} {S0 : FS} {n : Nat} [HasD n] {F : List (Nat × Value)} {L : List HP} {Q : Exit → Act → World → Prop} (D : List Nat) [T : POx D Q] {id : Nat} {l : List Oper} (plan : List PI) (hm : (P.follows .mixedOrders && Region.noSelect l.toArray && planOk l.toArray (Array.replicate l.toArray.size false) plan && (planLen plan == l.toArray.size) && l.all fun o => D.all fun k => o.dst != some k) = true)
    (h : RP P w0 S0 n l.toArray Q L plan F L) : Reach w0 S0 n F L ((Code.region id l.toArray true).wp P Q) := p_beginx D plan L hm h
/-- what is left behind the door hangs on the results alone -/
theorem leaves_congr {P : Program} {fn : Func} {t1 t2 : Array Value} {R : Ending → World → Prop} (hr : results fn t1 = results fn t2) : ∀ (ds : List Deferred) (u : FrameMode) (w : World), Leaves P fn t1 R ds u w → Leaves P fn t2 R ds u w
  | [], .returning, w, h => by rw [Leaves] at h ⊢; rwa [← hr]
  | [], .panicking _, w, h => h
  | [], .run, w, h => h
  | d :: ds, u, w, h => by
    rw [Leaves] at h ⊢
    obtain ⟨h1, fv, cap, f, args, h2, h3, h4⟩ := h
    refine ⟨h1, fv, cap, f, args, h2, h3, h4.mono fun e u' w' he => ?_⟩
    cases e with
    | returned v => exact leaves_congr hr ds _ _ he
    | panicked ch => exact leaves_congr hr ds _ _ he
    | outgrown => exact he
theorem put_getD {a : Act} {d : Option Nat} {v : Value} {k : Nat} (h : d ≠ some k) : (a.put d v).tmps.getD k undef = a.tmps.getD k undef := by
  cases d with
  | none => rfl
  | some d =>
    have : d ≠ k := fun e => h (by rw [e])
    simp [Act.put, Array.getD_eq_getD_getElem?, this]
theorem pox_door {P : Program} {fn : Func} {R : Ending → World → Prop} {x y : Nat} {tx ty : TypeId} (hr : fn.results = #[.cell x tx, .cell y ty]) : POx [x, y] (bodyPostD P fn R) := ⟨fun c a d v w hd h => by
  have h1 := put_getD (a := a) (v := v) (hd x (by simp))
  have h2 := put_getD (a := a) (v := v) (hd y (by simp))
  have hdf : (a.put d v).defers = a.defers := by cases d <;> rfl
  have e : results fn (a.put d v).tmps = results fn a.tmps := by
    unfold results
    rw [hr]
    simp only [List.mapM_toArray, List.mapM_cons, List.mapM_nil, h1, h2]
  show Leaves P fn a.tmps R a.defers (.panicking c) w
  rw [← hdf]
  exact leaves_congr e _ _ _ h⟩
instance {P : Program} {fn : Func} {c₀ : Frame} {cs cs' : List Frame} {R : Ending → FrameMode → World → Prop} : PO (fun e a w => bodyPostS P fn c₀ cs R e a cs' w) := ⟨fun c a d v w h => by
  have hdf : (a.put d v).defers = a.defers := by cases d <;> rfl
  obtain ⟨h1, h2⟩ := h
  exact ⟨hdf ▸ h1, h2⟩⟩
section
variable {P : Program} {ops : Array Oper} {Q : Exit → Act → List Frame → World → Prop} {i : Nat} {o : Oper} {rest : List Nat} {a : Act} {cs cs' : List Frame} {w : World} {v : Value}
theorem opsS_rec (ho : ops[i]? = some o) (hg : o.guard = none) (hr : (execOp a.eval o).run P w = .ok .recover w) (hc : recoverD cs = some (v, cs')) (h : wpOpsS P ops Q rest (a.put o.dst v) cs' w) : wpOpsS P ops Q (i :: rest) a cs w := by
  simp only [wpOpsS, ho, Region.wanted, hg, if_true, hr, hc]; exact h
theorem opsS_rec0 (ho : ops[i]? = some o) (hg : o.guard = none) (hr : (execOp a.eval o).run P w = .ok .recover w) (hc : recoverD cs = none) (h : wpOpsS P ops Q rest (a.put o.dst .nilIface) cs w) : wpOpsS P ops Q (i :: rest) a cs w := by
  simp only [wpOpsS, ho, Region.wanted, hg, if_true, hr, hc]; exact h
theorem opsS_val (ho : ops[i]? = some o) (hg : o.guard = none) (hr : (execOp a.eval o).run P w = .ok (.value v) w) (h : wpOpsS P ops Q rest (a.put o.dst v) cs w) : wpOpsS P ops Q (i :: rest) a cs w := by
  simp only [wpOpsS, ho, Region.wanted, hg, if_true, hr, Oper.upon_value]; exact h
theorem Fr.args {vs : List Value} {n : Nat} (hl : vs.length ≤ n) : Fr (argsF 0 vs) n { tmps := vs.toArray ++ Array.replicate (n - vs.toArray.size) undef, defers := [] } := by
  refine ⟨rfl, ?_, ?_⟩
  · simp; omega
  · intro t u ht
    obtain ⟨j, rfl, hj⟩ := argsF_get vs 0 t u ht
    have hlt := (List.getElem?_eq_some_iff.1 hj).1
    simp only [Nat.zero_add, Array.getD_eq_getD_getElem?]
    rw [Array.getElem?_append_left (by simpa using hlt)]
    simp [hj]
theorem callsD_enter {f : FuncId} {fn : Func} {c : Code} {vs : List Value} {n : Nat} {u : FrameMode} {R : Ending → FrameMode → World → Prop} (hf : P.funcs[f]? = some fn) (hb : fn.body = some c) (hn : fn.ntmps = n) (hl : Nat.ble vs.length n = true)
    (h : ∀ (c₀ : Frame) (cs : List Frame), c₀.mode = u → ∀ a, Fr (argsF 0 vs) n a → c.wpS P (bodyPostS P fn c₀ cs R) a (c₀ :: cs) w) : CallsD P f vs.toArray u w R :=
  callsD_of_wpS hf hb fun c₀ cs hu => h c₀ cs hu _ (by rw [hn]; exact Fr.args (by simpa using hl))
theorem recoverD_pan {c : Frame} {cs : List Frame} {v : Value} (h : c.mode = .panicking [pan v]) : recoverD (c :: cs) = some (v, { c with mode := .panicking [{ v := v, recovered := true }] } :: cs) := by
  simp only [recoverD, h]
theorem recoverD_ret {c : Frame} {cs : List Frame} (h : c.mode = .returning) : recoverD (c :: cs) = none := by
  simp only [recoverD, h]
end
end Go.Sl
end
section
set_option linter.unusedVariables false
namespace Go.Proofs.YtllkoinbfegonaaDoor
open Go Go.RowKit Go.Sl Go.Num Fil
set_option maxRecDepth 100000 in
theorem asStop (v : Value) (w : World) : (Instr.typeAssert (.iface 95 v) 20 95 true).run Tryd.prog w = .ok (.tuple #[v, .bool true]) w := by kernel_rfl
set_option linter.unusedSimpArgs false in
theorem bps_normal {P : Program} {fn : Func} {c₀ : Frame} {cs cs' : List Frame} {R : Ending → FrameMode → World → Prop} {a : Act} {w : World} {u' : FrameMode} (hd : a.defers = []) (hc : cs' = { c₀ with mode := u' } :: cs) (hr : fn.results = #[]) (h : R (.returned (.tuple #[])) u' w) : bodyPostS P fn c₀ cs R .normal a cs' w :=
  ⟨hd, u', hc, .tuple #[], results_none hr _ _ _, h⟩
set_option maxRecDepth 100000
set_option maxHeartbeats 8000000
set_option linter.unusedVariables false
set_option linter.unusedSimpArgs false
attribute [local irreducible] Code.wp wpList bodyPost wpQuiet Exit.then Exit.inBlock Post wpAnyH wpOp
theorem door_pan (b2 b3 : Nat) (errv g0 g1 e0 : Value) (h1 : errv.oneCell' = true) (w : World) (S : FS) (hs : sats [boxHP b2 56 [g0, g1], boxHP b3 27 [e0]] S w) :
    CallsD Tryd.prog 45 #[.pointer (some ⟨b2, 0, none⟩), .pointer (some ⟨b3, 0, none⟩)] (.panicking [pan (.iface 95 (.agg #[errv]))]) w
      (fun e u' w' => e = .returned (.tuple #[]) ∧ u' = .panicking [{ v := .iface 95 (.agg #[errv]), recovered := true }] ∧ ∃ S', Mod w S w' S' ∧ sats [boxHP b2 56 [.int .i64 0, .slice none 0 0], boxHP b3 27 [errv]] S' w') := by
  refine callsD_enter (vs := [_, _]) Tryd.func45 rfl Tryd.ntmps45 rfl fun c₀ cs hu a hf => ?_
  refine wpS_seq (wpS_region ?_)
  show wpOpsS _ _ _ [0, 1] _ _ _
  refine opsS_rec rfl rfl rfl (recoverD_pan hu) ?_
  have hf1 := hf.put (d := 5) (v := .iface 95 (.agg #[errv])) rfl
  refine opsS_val rfl rfl ((q_assign rfl (by exact rfl) : R1 Tryd.prog w S _ ((5, .iface 95 (.agg #[errv])) :: argsF 0 [.pointer (some ⟨b2, 0, none⟩), .pointer (some ⟨b3, 0, none⟩)]) [boxHP b2 56 [g0, g1], boxHP b3 27 [e0]] _ _) _ hf1 w (St.start hs)) ?_
  have hf2 := hf1.put (d := 2) (v := .iface 95 (.agg #[errv])) rfl
  refine wpS_of_wp ?_
  refine (?_ : Sl.Reach w S _ _ [boxHP b2 56 [g0, g1], boxHP b3 27 [e0]] _) _ w hf2 (St.start hs)
  repeat' first
    | refine k_then ?_ | refine c_seq ?_ | refine c_region ?_ | refine s_nil ?_ | refine s_move (by exact rfl) (by exact rfl) ?_ | refine c_cond_t (by exact rfl) ?_ | refine s_q rfl rfl (by exact rfl) (q_nonnil_f rfl (by exact rfl)).q ?_ | fail
  refine s_q rfl rfl (by exact rfl) (q_assert (asStop _) rfl (by exact rfl)).q ?_
  repeat' first
    | refine s_move (by exact rfl) (by exact rfl) ?_ | refine s_extract (by exact rfl) (by exact rfl) (by exact rfl) ?_ | refine o_alloc (by exact rfl) (fun b => ?_) | fail
  refine o_stk_box (i := 0) (us := [errv]) (by exact rfl) (by exact rfl) (by exact rfl) (by exact rfl) (by exact rfl) (by simpa using h1) (by simp [Value.cells]) ?_
  repeat' first
    | refine k_then ?_ | refine c_seq ?_ | refine c_region ?_ | refine s_nil ?_ | refine s_move (by exact rfl) (by exact rfl) ?_ | refine s_assign (by exact rfl) (by exact rfl) ?_ | refine s_not (by exact rfl) (by exact rfl) ?_ | refine c_skip ?_ | refine c_cond_f (by exact rfl) ?_ | fail
  refine p_begin [(0, true), (1, true), (2, true), (3, false), (4, false)] [boxHP b 95 [errv]] (by kernel_rfl) ?_
  refine p_buildt (cs := [.int .i64 0, .slice none 0 0]) [] (by exact rfl) (by exact rfl) (by exact rfl) (by simp) ?_ (by exact fun _ h => h.pick [0] (by exact rfl)) ?_
  · exact rfl
  repeat' first
    | (refine p_at (by exact rfl) ?_
       first
        | refine t_fa (by exact rfl) (by exact rfl) (by exact fun _ h => h.pick [0] (by exact rfl)) ?_ | refine t_ld_box (by exact rfl) (by exact rfl) (by exact .head _) (by exact rfl) (by exact fun _ h => h.pick [0] (by exact rfl)) ?_ | fail)
    | fail
  refine p_stk_box (j := 1) (us := [.int .i64 0, .slice none 0 0]) (by exact rfl) (by exact rfl) (by exact rfl) (by exact rfl) (by simp [Value.cells]) rfl (by simp [Value.oneCell']) (by simp) (fun _ h => h.pick [0] (by exact rfl)) ?_
  refine p_st_box (j := 2) (by exact rfl) (by exact rfl) (by exact rfl) (by exact rfl) h1 (by simp) (fun _ h => h.pick [0] (by exact rfl)) ?_
  refine p_nil ?_
  intro a w' hf hst
  obtain ⟨S', hm, hsat⟩ := hst.pick [1, 1] (by exact rfl)
  exact bps_normal hf.df rfl rfl ⟨rfl, rfl, S', hm, hsat⟩
theorem door_ret (b2 b3 : Nat) (w : World) (S : FS) :
    CallsD Tryd.prog 45 #[.pointer (some ⟨b2, 0, none⟩), .pointer (some ⟨b3, 0, none⟩)] .returning w
      (fun e u' w' => e = .returned (.tuple #[]) ∧ u' = .returning ∧ Mod w No w' No) := by
  refine callsD_enter (vs := [_, _]) Tryd.func45 rfl Tryd.ntmps45 rfl fun c₀ cs hu a hf => ?_
  refine wpS_seq (wpS_region ?_)
  show wpOpsS _ _ _ [0, 1] _ _ _
  refine opsS_rec0 rfl rfl rfl (recoverD_ret hu) ?_
  have hf1 := hf.put (d := 5) (v := .nilIface) rfl
  refine opsS_val rfl rfl ((q_assign rfl (by exact rfl) : R1 Tryd.prog w No _ ((5, .nilIface) :: argsF 0 [.pointer (some ⟨b2, 0, none⟩), .pointer (some ⟨b3, 0, none⟩)]) [] _ _) _ hf1 w (St.start trivial)) ?_
  have hf2 := hf1.put (d := 2) (v := .nilIface) rfl
  refine wpS_of_wp ?_
  refine (?_ : Sl.Reach w No _ _ [] _) _ w hf2 (St.start trivial)
  repeat' first
    | refine k_then ?_ | refine c_seq ?_ | refine c_region ?_ | refine s_nil ?_ | refine s_move (by exact rfl) (by exact rfl) ?_ | refine c_skip ?_ | refine c_cond_f (by exact rfl) ?_ | refine s_q rfl rfl (by exact rfl) (q_nonnil_t rfl (by exact rfl)).q ?_ | fail
  intro a w' hf hst
  obtain ⟨S', hm, -⟩ := hst
  exact bps_normal hf.df (by rw [← hu]) rfl ⟨rfl, rfl, ⟨hm.os, hm.tape, hm.output, hm.drawn, hm.size, hm.keep, fun _ h => h.elim⟩⟩
end Go.Proofs.YtllkoinbfegonaaDoor
end
section
namespace Go.Sl
open Go Go.Proofs
instance : BoTy Tryd.prog 4 := ⟨Tryd.underlying4⟩
end Go.Sl
end
section
set_option linter.unusedVariables false
set_option linter.unusedSimpArgs false
namespace Go.Sl
open Go Go.RowKit
/-- What is asked of a post: no frame has outgrown the stack. -/
class NL (Q : Exit → Act → World → Prop) : Prop where
  no : ¬ LetsOut Q
instance {K : Act → World → Prop} {Q : Exit → Act → World → Prop} [T : NL Q] : NL (Exit.then K Q) := ⟨fun ⟨a, w, h⟩ => T.no ⟨a, w, h⟩⟩
instance {id : Nat} {Q : Exit → Act → World → Prop} [T : NL Q] : NL (Exit.inBlock id Q) := ⟨fun ⟨a, w, h⟩ => T.no ⟨a, w, h⟩⟩
instance {P : Program} {fn : Func} {w : World} {S : FS} {G : Value → List HP → Prop} : NL (bodyPost P fn (Post w S G)) := ⟨fun ⟨_, _, v, L', _, h, _⟩ => by simp at h⟩
/-- the fence that lets all in, in a round's frame or not -/
abbrev RF (ro : Option Nat) : Fence := { Fence.wide with round := ro }
instance {ro : Option Nat} {m : Nat} {P : Program} {fn : Func} {w : World} {S : FS} {G : Value → List HP → Prop} : NL (bodyPostM (RF ro) m P fn (Post w S G)) := ⟨fun ⟨_, _, v, L', _, h, _⟩ => by simp at h⟩
instance {l : Nat} {P : Program} {R : Ending → World → Prop} : NL (roundPost P l R) := ⟨fun ⟨_, _, h⟩ => h⟩
instance : NL (fun _ _ _ => False) := ⟨fun ⟨_, _, h⟩ => h⟩
section
variable {P : Program} {w0 : World} {S0 : FS} {n m : Nat} {F : List (Nat × Value)} {L : List HP} {o : Oper} {rest : List Oper} {ops : Array Oper} {Q Q' : Exit → Act → World → Prop} {d : Nat} {v : Value} {ro : Option Nat}
theorem RO.fwd {w : World} {S Sf : FS} {ys : List Value} (hr : RO w0 S0 v ys) (hm0 : Mod w0 S0 w Sf) (hS : ∀ k, S k → Sf k) : RO w S v ys := fun w' S' hm =>
  hr w' (fun k => Sf k ∨ S' k) (hm0.trans ⟨hm.os, hm.tape, hm.output, hm.drawn, hm.size, fun k hk hn => hm.keep k hk (fun h => hn (hS k h)), fun k hk => hk.elim .inl (fun h => (hm.new k h).imp (hS k) id)⟩)
theorem RB.fwd {w : World} {S Sf : FS} {b : Nat} {t : TypeId} {cs : List Value} (hr : RB w0 S0 b t cs) (hm0 : Mod w0 S0 w Sf) (hS : ∀ k, S k → Sf k) : RB w S b t cs := fun w' S' hm =>
  hr w' (fun k => Sf k ∨ S' k) (hm0.trans ⟨hm.os, hm.tape, hm.output, hm.drawn, hm.size, fun k hk hn => hm.keep k hk (fun h => hn (hS k h)), fun k hk => hk.elim .inl (fun h => (hm.new k h).imp (hS k) id)⟩)
end
end Go.Sl
end
section
namespace Fil
theorem getD_set {α : Type} (l : List α) (u v : Nat) (x d : α) : (l.set u x).getD v d = if u = v ∧ u < l.length then x else l.getD v d := by
  simp only [List.getD_eq_getElem?_getD, List.getElem?_set]
  by_cases h : u = v
  · subst h
    by_cases h2 : u < l.length
    · simp [h2]
    · simp [h2]
  · simp [h]
/-- c is one on both ends of each edge -/
def OnEdges (N : Nat) (A : Nat → List Nat) (c : Nat → Nat) : Prop := ∀ v, v < N → ∀ u ∈ A v, c u = c v
structure Adj (N : Nat) (A : Nat → List Nat) : Prop where
  lt : ∀ v, v < N → ∀ u ∈ A v, u < N
  sym : ∀ v u, v < N → u ∈ A v → v ∈ A u
structure Bfs (N : Nat) (A : Nat → List Nat) (first : Nat) (met : List Bool) (out : List Nat) (lab : Nat → Nat) (line : List Nat) : Prop where
  lm : met.length = N
  lo : out.length = N
  line_lt : ∀ v ∈ line, v < N
  line_met : ∀ v ∈ line, met.getD v false = true
  line_lab : ∀ v ∈ line, lab v = first
  order : line.Pairwise fun a b => out.getD a 0 ≤ out.getD b 0
  head : ∀ a, line.head? = some a → ∀ b ∈ line, out.getD b 0 ≤ out.getD a 0 + 1
  done : ∀ w, w < N → met.getD w false = true → w ∉ line → ∀ u ∈ A w, met.getD u false = true ∧ lab u = lab w ∧ out.getD u 0 ≤ out.getD w 0 + 1
  low : ∀ w, w < N → met.getD w false = true → w ∉ line → lab w = first → ∀ b ∈ line, out.getD w 0 ≤ out.getD b 0
  up : ∀ v k, v < N → met.getD v false = true → out.getD v 0 = k + 1 → ∃ u ∈ A v, met.getD u false = true ∧ out.getD u 0 = k
  root : ∀ v, v < N → met.getD v false = true → (out.getD v 0 = 0 ↔ lab v = v)
  zero : ∀ v, met.getD v false = false → out.getD v 0 = 0
  lab_le : ∀ v, v < N → met.getD v false = true → lab v ≤ v
  lab_met : ∀ v, v < N → met.getD v false = true → met.getD (lab v) false = true ∧ lab (lab v) = lab v
  conn : ∀ v, v < N → met.getD v false = true → ∀ c, OnEdges N A c → c v = c (lab v)
  below : ∀ w, w < first → met.getD w false = true
/-- met, from the current one -/
def Seen (A : Nat → List Nat) (first : Nat) (met : List Bool) (out : List Nat) (lab : Nat → Nat) (v j : Nat) : Prop :=
  ∀ u ∈ (A v).take j, met.getD u false = true ∧ lab u = first ∧ out.getD u 0 ≤ out.getD v 0 + 1
theorem Bfs.old {N : Nat} {A : Nat → List Nat} {first v u j : Nat} {met : List Bool} {out : List Nat} {lab : Nat → Nat} {rest : List Nat} (hA : Adj N A) (h : Bfs N A first met out lab (v :: rest)) (hs : Seen A first met out lab v j) (hu : (A v)[j]? = some u) (hm : met.getD u false = true) : Seen A first met out lab v (j + 1) := by
  have hv : v < N := h.line_lt v (by simp)
  have huA : u ∈ A v := List.mem_of_getElem? hu
  have hun := hA.lt v hv u huA
  intro x hx
  rw [List.take_add_one, hu] at hx
  rcases List.mem_append.1 hx with hx | hx
  · exact hs x hx
  · obtain rfl : x = u := by simpa using hx
    refine ⟨hm, ?_⟩
    by_cases hl : x ∈ v :: rest
    · exact ⟨h.line_lab x hl, h.head v rfl x hl⟩
    · obtain ⟨_, h2, _⟩ := h.done x hun hm hl v (hA.sym v x hv huA)
      have hv1 := h.line_lab v (by simp)
      have hf : lab x = first := by rw [← h2, hv1]
      refine ⟨hf, ?_⟩
      have := h.low x hun hm hl hf v (by simp)
      omega
theorem Bfs.new {N : Nat} {A : Nat → List Nat} {first v u j : Nat} {met : List Bool} {out : List Nat} {lab : Nat → Nat} {rest : List Nat} (hA : Adj N A) (h : Bfs N A first met out lab (v :: rest)) (hs : Seen A first met out lab v j) (hu : (A v)[j]? = some u) (hm : met.getD u false = false) :
    Bfs N A first (met.set u true) (out.set u (out.getD v 0 + 1)) (fun x => if x = u then first else lab x) (v :: rest ++ [u]) ∧ Seen A first (met.set u true) (out.set u (out.getD v 0 + 1)) (fun x => if x = u then first else lab x) v (j + 1) := by
  have hv : v < N := h.line_lt v (by simp)
  have hvm := h.line_met v (by simp)
  have huA : u ∈ A v := List.mem_of_getElem? hu
  have hun := hA.lt v hv u huA
  have hul : u < met.length := by rw [h.lm]; exact hun
  have hulo : u < out.length := by rw [h.lo]; exact hun
  have hne : ∀ x, met.getD x false = true → x ≠ u := fun x hx e => by subst e; rw [hm] at hx; simp at hx
  have hnv := hne v hvm
  have M : ∀ x, (met.set u true).getD x false = if u = x then true else met.getD x false := fun x => by rw [getD_set]; simp [hul]
  have O : ∀ x, (out.set u (out.getD v 0 + 1)).getD x 0 = if u = x then out.getD v 0 + 1 else out.getD x 0 := fun x => by rw [getD_set]; simp [hulo]
  have Om : ∀ x, met.getD x false = true → (out.set u (out.getD v 0 + 1)).getD x 0 = out.getD x 0 := fun x hx => by rw [O, if_neg (Ne.symm (hne x hx))]
  have Mm : ∀ x, met.getD x false = true → (met.set u true).getD x false = true := fun x hx => by rw [M]; split <;> simp_all
  have Mt : ∀ x, (met.set u true).getD x false = true → x = u ∨ met.getD x false = true := fun x hx => by
    rw [M] at hx
    split at hx
    · left; rename_i e; exact e.symm
    · exact .inr hx
  have hlabv := h.line_lab v (by simp)
  have hfirst := h.lab_met v hv hvm
  rw [hlabv] at hfirst
  have hfu : first ≠ u := hne _ hfirst.1
  have hfle : first ≤ u := by
    rcases Nat.lt_or_ge u first with hlt | hge
    · have := h.below u hlt; rw [hm] at this; simp at this
    · exact hge
  refine ⟨⟨by simp [h.lm], by simp [h.lo], ?_, ?_, ?_, ?_, ?_, ?_, ?_, ?_, ?_, ?_, ?_, ?_, ?_, ?_⟩, ?_⟩
  · intro x hx
    rcases List.mem_append.1 hx with hx | hx
    · exact h.line_lt x hx
    · obtain rfl : x = u := by simpa using hx
      exact hun
  · intro x hx
    rcases List.mem_append.1 hx with hx | hx
    · exact Mm x (h.line_met x hx)
    · obtain rfl : x = u := by simpa using hx
      rw [M, if_pos rfl]
  · intro x hx
    rcases List.mem_append.1 hx with hx | hx
    · simp [hne x (h.line_met x hx), h.line_lab x hx]
    · obtain rfl : x = u := by simpa using hx
      simp
  · refine List.pairwise_append.2 ⟨?_, by simp, ?_⟩
    · refine h.order.imp_of_mem fun {a b} ha hb hab => ?_
      rw [Om a (h.line_met a ha), Om b (h.line_met b hb)]
      exact hab
    · intro a ha b hb
      obtain rfl : b = u := by simpa using hb
      rw [Om a (h.line_met a ha), O b, if_pos rfl]
      exact h.head v rfl a ha
  · intro a ha b hb
    obtain rfl : v = a := by simpa using ha
    rw [Om v hvm]
    rcases List.mem_append.1 hb with hb | hb
    · rw [Om b (h.line_met b hb)]
      exact h.head v rfl b hb
    · obtain rfl : b = u := by simpa using hb
      rw [O b, if_pos rfl]
      exact Nat.le_refl _
  · intro w hw hwm hwl x hx
    have hwu : w ≠ u := fun e => hwl (by simp [e])
    have hwm' : met.getD w false = true := (Mt w hwm).resolve_left hwu
    obtain ⟨h1, h2, h3⟩ := h.done w hw hwm' (fun hh => hwl (List.mem_append.2 (.inl hh))) x hx
    refine ⟨Mm x h1, ?_, ?_⟩
    · simp [hne x h1, hwu, h2]
    · rw [Om x h1, Om w hwm']; exact h3
  · intro w hw hwm hwl hwf b hb
    have hwu : w ≠ u := fun e => hwl (by simp [e])
    have hwm' : met.getD w false = true := (Mt w hwm).resolve_left hwu
    have hwl' : w ∉ v :: rest := fun hh => hwl (List.mem_append.2 (.inl hh))
    have hwf' : lab w = first := by simpa [hwu] using hwf
    rw [Om w hwm']
    rcases List.mem_append.1 hb with hb | hb
    · rw [Om b (h.line_met b hb)]
      exact h.low w hw hwm' hwl' hwf' b hb
    · obtain rfl : b = u := by simpa using hb
      rw [O b, if_pos rfl]
      have := h.low w hw hwm' hwl' hwf' v (by simp)
      omega
  · intro x k hx hxm hxk
    rcases Mt x hxm with rfl | hxm'
    · rw [O x, if_pos rfl] at hxk
      exact ⟨v, hA.sym v x hv huA, Mm v hvm, by rw [Om v hvm]; omega⟩
    · rw [Om x hxm'] at hxk
      obtain ⟨y, hy, hym, hyk⟩ := h.up x k hx hxm' hxk
      exact ⟨y, hy, Mm y hym, by rw [Om y hym]; exact hyk⟩
  · intro x hx hxm
    rcases Mt x hxm with rfl | hxm'
    · rw [O x, if_pos rfl, if_pos rfl]
      exact ⟨fun e => by omega, fun e => absurd e hfu⟩
    · rw [Om x hxm', if_neg (hne x hxm')]
      exact h.root x hx hxm'
  · intro x hx
    rw [M] at hx
    rw [O]
    split at hx
    · simp at hx
    · rename_i e
      rw [if_neg e]
      exact h.zero x hx
  · intro x hx hxm
    rcases Mt x hxm with rfl | hxm'
    · simpa using hfle
    · simpa [hne x hxm'] using h.lab_le x hx hxm'
  · intro x hx hxm
    rcases Mt x hxm with rfl | hxm'
    · simp only [if_true]
      refine ⟨Mm _ hfirst.1, ?_⟩
      rw [if_neg hfu]
      exact hfirst.2
    · obtain ⟨h1, h2⟩ := h.lab_met x hx hxm'
      rw [if_neg (hne x hxm')]
      refine ⟨Mm _ h1, ?_⟩
      rw [if_neg (hne _ h1)]
      exact h2
  · intro x hx hxm c hc
    rcases Mt x hxm with rfl | hxm'
    · rw [if_pos rfl, hc v hv x huA, ← hlabv]
      exact h.conn v hv hvm c hc
    · rw [if_neg (hne x hxm')]
      exact h.conn x hx hxm' c hc
  · intro w hw
    exact Mm w (h.below w hw)
  · intro x hx
    rw [List.take_add_one, hu] at hx
    rcases List.mem_append.1 hx with hx | hx
    · obtain ⟨h1, h2, h3⟩ := hs x hx
      refine ⟨Mm x h1, by simp [hne x h1, h2], ?_⟩
      rw [Om x h1, Om v hvm]; exact h3
    · obtain rfl : x = u := by simpa using hx
      refine ⟨by rw [M, if_pos rfl], by simp, ?_⟩
      rw [O x, if_pos rfl, Om v hvm]
      exact Nat.le_refl _
/-- .. or was not -/
theorem Bfs.start {N : Nat} {A : Nat → List Nat} {first : Nat} {met : List Bool} {out : List Nat} {lab : Nat → Nat} (h : Bfs N A first met out lab []) (hf : first < N) (hm : met.getD first false = false) : Bfs N A first (met.set first true) out (fun x => if x = first then first else lab x) [first] := by
  have hul : first < met.length := by rw [h.lm]; exact hf
  have hne : ∀ x, met.getD x false = true → x ≠ first := fun x hx e => by subst e; rw [hm] at hx; simp at hx
  have M : ∀ x, (met.set first true).getD x false = if first = x then true else met.getD x false := fun x => by rw [getD_set]; simp [hul]
  have Mm : ∀ x, met.getD x false = true → (met.set first true).getD x false = true := fun x hx => by rw [M]; split <;> simp_all
  have Mt : ∀ x, (met.set first true).getD x false = true → x = first ∨ met.getD x false = true := fun x hx => by
    rw [M] at hx
    split at hx
    · left; rename_i e; exact e.symm
    · exact .inr hx
  refine ⟨by simp [h.lm], h.lo, ?_, ?_, ?_, by simp, ?_, ?_, ?_, ?_, ?_, ?_, ?_, ?_, ?_, ?_⟩
  · intro x hx
    obtain rfl : x = first := by simpa using hx
    exact hf
  · intro x hx
    obtain rfl : x = first := by simpa using hx
    rw [M, if_pos rfl]
  · intro x hx
    obtain rfl : x = first := by simpa using hx
    simp
  · intro a ha b hb
    obtain rfl : first = a := by simpa using ha
    obtain rfl : b = first := by simpa using hb
    omega
  · intro w hw hwm hwl x hx
    have hwu : w ≠ first := fun e => hwl (by simp [e])
    have hwm' : met.getD w false = true := (Mt w hwm).resolve_left hwu
    obtain ⟨h1, h2, h3⟩ := h.done w hw hwm' (by simp) x hx
    exact ⟨Mm x h1, by simp [hne x h1, hwu, h2], h3⟩
  · intro w hw hwm hwl hwf b hb
    have hwu : w ≠ first := fun e => hwl (by simp [e])
    have hwm' : met.getD w false = true := (Mt w hwm).resolve_left hwu
    have hwf' : lab w = first := by simpa [hwu] using hwf
    have := (h.lab_met w hw hwm').1
    rw [hwf', hm] at this
    simp at this
  · intro x k hx hxm hxk
    rcases Mt x hxm with rfl | hxm'
    · rw [h.zero x hm] at hxk; omega
    · obtain ⟨y, hy, hym, hyk⟩ := h.up x k hx hxm' hxk
      exact ⟨y, hy, Mm y hym, hyk⟩
  · intro x hx hxm
    rcases Mt x hxm with rfl | hxm'
    · simp [-List.getD_eq_getElem?_getD, h.zero x hm]
    · rw [if_neg (hne x hxm')]
      exact h.root x hx hxm'
  · intro x hx
    rw [M] at hx
    split at hx
    · simp at hx
    · exact h.zero x hx
  · intro x hx hxm
    rcases Mt x hxm with rfl | hxm'
    · simp
    · simpa [hne x hxm'] using h.lab_le x hx hxm'
  · intro x hx hxm
    rcases Mt x hxm with rfl | hxm'
    · simp [-List.getD_eq_getElem?_getD, M]
    · obtain ⟨h1, h2⟩ := h.lab_met x hx hxm'
      rw [if_neg (hne x hxm')]
      refine ⟨Mm _ h1, ?_⟩
      rw [if_neg (hne _ h1)]
      exact h2
  · intro x hx hxm c hc
    rcases Mt x hxm with rfl | hxm'
    · rw [if_pos rfl]
    · rw [if_neg (hne x hxm')]
      exact h.conn x hx hxm' c hc
  · intro w hw
    exact Mm w (h.below w hw)
/-- levels, and the least one that each hangs together with -/
structure Lev (N : Nat) (A : Nat → List Nat) (o : Nat → Nat) (lab : Nat → Nat) : Prop where
  edge : ∀ w, w < N → ∀ u ∈ A w, lab u = lab w ∧ o u ≤ o w + 1
  up : ∀ v k, v < N → o v = k + 1 → ∃ u ∈ A v, o u = k
  root : ∀ v, v < N → (o v = 0 ↔ lab v = v)
  le : ∀ v, v < N → lab v ≤ v
  idem : ∀ v, v < N → lab (lab v) = lab v
  conn : ∀ v, v < N → ∀ c, OnEdges N A c → c v = c (lab v)
end Fil
end
section
namespace Fil
def okE (n : Int) (e : E) : Prop := 0 ≤ e.1 ∧ e.1 < e.2.1 ∧ e.2.1 < n ∧ -2147483648 < e.2.2 ∧ e.2.2 < 2147483648
def ltE (a b : E) : Prop := a.1 < b.1 ∨ a.1 = b.1 ∧ a.2.1 < b.2.1
structure RightG (n : Int) (es : List E) : Prop where
  lo : 0 ≤ n
  hi : n ≤ 1048576
  many : es.length ≤ 4194304
  ok : ∀ e ∈ es, okE n e
  sorted : es.Pairwise ltE
theorem ltE_trans {a b c : E} (h : ltE a b) (h' : ltE b c) : ltE a c := by
  simp only [ltE] at *; omega
/-- edges, by numbers of vertices -/
def tn (es : List E) : List (Nat × Nat) := es.map fun e => (e.1.toNat, e.2.1.toNat)
/-- next to u, as the edges come -/
def nb (l : List (Nat × Nat)) (u : Nat) : List Nat := l.filterMap fun e => if e.1 = u then some e.2 else if e.2 = u then some e.1 else none
def nearS (l : List (Nat × Nat)) (u : Nat) : List Nat := (nb l u).mergeSort fun x y => decide (x ≤ y)
/-- sorted up to i -/
def sorted (N : Nat) (l : List (Nat × Nat)) (i : Nat) : List (List Nat) := (List.range N).map fun u => if u < i then nearS l u else nb l u
theorem mem_nb {l : List (Nat × Nat)} {u v : Nat} (hl : ∀ e ∈ l, e.1 ≠ e.2) : u ∈ nb l v ↔ (v, u) ∈ l ∨ (u, v) ∈ l := by
  simp only [nb, List.mem_filterMap]
  constructor
  · rintro ⟨⟨a, b⟩, he, h⟩
    dsimp only at h
    split at h
    · rename_i h1; subst h1
      obtain rfl : b = u := by simpa using h
      exact .inl he
    · split at h
      · rename_i h2; subst h2
        obtain rfl : a = u := by simpa using h
        exact .inr he
      · simp at h
  · rintro (h | h)
    · exact ⟨(v, u), h, by simp⟩
    · refine ⟨(u, v), h, ?_⟩
      have := hl _ h
      dsimp only at this ⊢
      rw [if_neg this, if_pos rfl]
structure Good (N : Nat) (l : List (Nat × Nat)) : Prop where
  lt : ∀ e ∈ l, e.1 < e.2 ∧ e.2 < N
theorem RightG.good {n : Int} {es : List E} (h : RightG n es) : Good n.toNat (tn es) where
  lt e he := by
    obtain ⟨x, hx, rfl⟩ := List.mem_map.1 he
    obtain ⟨h1, h2, h3, -, -⟩ := h.ok x hx
    have := h.lo
    dsimp only
    omega
end Fil
end
section
namespace Go.Proofs
open Go.Shelf
end Go.Proofs
namespace Go.Sl
open Go Go.RowKit Go.Sort Go.Proofs
def iV (l : List Int) : List Value := l.map (Value.int .i64)
def nV (l : List Nat) : List Value := l.map fun (k : Nat) => .int .i64 (k : Int)
end Go.Sl
end
section
namespace Go.Sl
open Go Go.RowKit
end Go.Sl
namespace Go.Proofs.YtllkoinbfegonaaDoor
open Go.RowKit Go.Sl Fil
set_option maxRecDepth 100000
set_option maxHeartbeats 8000000
set_option linter.unusedVariables false
set_option linter.unusedSimpArgs false
attribute [local irreducible] Code.wp wpList bodyPost wpQuiet Exit.then Exit.inBlock Post wpAnyH wpOp
end Go.Proofs.YtllkoinbfegonaaDoor
end
section
namespace Go.Sl
open Go Go.RowKit
theorem nV_iV (l : List Nat) : nV l = iV (l.map fun (k : Nat) => (k : Int)) := by simp [nV, iV]
end Go.Sl
namespace Go.Proofs.YtllkoinbfegonaaDoor
open Go.RowKit Go.Sl Fil
end Go.Proofs.YtllkoinbfegonaaDoor
end
section
namespace Go.Sl
open Go.RowKit
section
variable {P : Program} {w0 : World} {S0 : FS} {n : Nat} {F : List (Nat × Value)} {L : List HP} {rest : List Oper} {ops : Array Oper} {Q : Exit → Act → World → Prop} {d i : Nat} {v : Value} {ty : TypeId} {ps : String} {af : Array Edge} {o : Oper} {x : Operand} {t t' e : TypeId} {z : Value} {sz bytes : Nat}
def nilB (v : Value) : Bool := match v with
  | .slice none _ _ => true
  | _ => false
theorem run_eqnil {m : Nat} (h : P.underlying t = some (.slice e)) (hs : Shp v m) (w : World) : (binOp .eql t v (.slice none 0 0)).run P w = .ok (.bool (nilB v)) w := by
  rcases hs.2 with ⟨rfl, _⟩ | ⟨g, off, cap, rfl, _⟩ | ⟨⟨a0, rfl⟩, _⟩
  all_goals
    simp only [binOp]
    simp [run_equal_slice_nil w t e _ _ _ h, nilB]
theorem s_eqnil {m : Nat} [T : SlTy P t e z sz bytes] (hn : Nat.blt d n = true) (hx : ev F x = some v) (hs : Shp v m) (h : Reach w0 S0 n ((d, .bool (nilB v)) :: F) L (wpList P ops Q rest)) : Reach w0 S0 n F L (wpList P ops Q (⟨some d, .binOp .eql t x (.const (.slice none 0 0)) t', ty, ps, af, none⟩ :: rest)) :=
  s_q rfl rfl hn (q_of_pure fun a hf w => by
    have := run_eqnil T.u hs w
    rcases hs.2 with ⟨rfl, _⟩ | ⟨g, off, cap, rfl, _⟩ | ⟨⟨a0, rfl⟩, _⟩ <;> (have he := hf.eval hx; have hc : ∀ u, a.eval (Operand.const u) = u := fun _ => rfl; simp [execOp, he, eqGuard, hc, this])).q h
end
end Go.Sl
namespace Go.Proofs.YtllkoinbfegonaaDoor
open Go.RowKit Go.Sl Fil
set_option maxRecDepth 100000
set_option maxHeartbeats 8000000
set_option linter.unusedVariables false
set_option linter.unusedSimpArgs false
attribute [local irreducible] Code.wp wpList bodyPost wpQuiet Exit.then Exit.inBlock Post wpAnyH wpOp
end Go.Proofs.YtllkoinbfegonaaDoor
end
section
namespace Fil
theorem countP_lt {α : Type} {p q : α → Bool} (hpq : ∀ x, p x = true → q x = true) : ∀ {l : List α} {x : α}, x ∈ l → p x = false → q x = true → l.countP p + 1 ≤ l.countP q
  | y :: l, x, hx, h1, h2 => by
    have mono : l.countP p ≤ l.countP q := List.countP_mono_left fun x _ h => hpq x h
    simp only [List.countP_cons]
    rcases List.mem_cons.1 hx with rfl | hx
    · rw [h1, h2]; simp; omega
    · have ih := countP_lt hpq hx h1 h2
      have : (if p y = true then 1 else 0) ≤ (if q y = true then 1 else 0) := by
        split
        · rename_i h; rw [if_pos (hpq y h)]; exact Nat.le_refl _
        · exact Nat.zero_le _
      omega
theorem Lev.lt {N : Nat} {A : Nat → List Nat} {o lab : Nat → Nat} (hA : Adj N A) (h : Lev N A o lab) : ∀ v, v < N → o v < N := by
  have down : ∀ k v, v < N → o v = k → ∀ j, j ≤ k → ∃ u, u < N ∧ o u = j := by
    intro k
    induction k with
    | zero => intro v hv hk j hj; exact ⟨v, hv, by omega⟩
    | succ k ih =>
      intro v hv hk j hj
      by_cases e : j = k + 1
      · exact ⟨v, hv, by omega⟩
      · obtain ⟨u, hu, hk'⟩ := h.up v k hv hk
        exact ih u (hA.lt v hv u hu) hk' j (by omega)
  intro v hv
  have cnt : ∀ j, j ≤ o v + 1 → j ≤ (List.range N).countP fun u => decide (o u < j) := by
    intro j
    induction j with
    | zero => intro _; exact Nat.zero_le _
    | succ j ih =>
      intro hj
      obtain ⟨u, hu, hoj⟩ := down (o v) v hv rfl j (by omega)
      have := countP_lt (p := fun u => decide (o u < j)) (q := fun u => decide (o u < j + 1)) (fun x hx => by simp at hx ⊢; omega) (List.mem_range.2 hu) (by simp [hoj]) (by simp [hoj])
      have := ih (by omega)
      omega
  have h1 := cnt (o v + 1) (Nat.le_refl _)
  have h2 := List.countP_le_length (l := List.range N) (p := fun u => decide (o u < o v + 1))
  rw [List.length_range] at h2
  omega
end Fil
end
section
set_option linter.unusedVariables false
namespace Fil
end Fil
end
section
namespace Go.Proofs.YtllkoinbfegonaaDoor
open Go.RowKit Go.Sl Fil
set_option maxRecDepth 100000
set_option maxHeartbeats 8000000
set_option linter.unusedVariables false
set_option linter.unusedSimpArgs false
attribute [local irreducible] Code.wp wpList bodyPost wpQuiet Exit.then Exit.inBlock Post wpAnyH wpOp
end Go.Proofs.YtllkoinbfegonaaDoor
end
section
namespace Go.Proofs.YtllkoinbfegonaaDoor
open Go.RowKit Go.Sl Fil
set_option maxRecDepth 100000
set_option maxHeartbeats 8000000
set_option linter.unusedVariables false
set_option linter.unusedSimpArgs false
attribute [local irreducible] Code.wp wpList bodyPost wpQuiet Exit.then Exit.inBlock Post wpAnyH wpOp
end Go.Proofs.YtllkoinbfegonaaDoor
end
section
namespace Go.Sl
open Go Go.RowKit
/-- rows that are read, by rows of numbers -/
structure ROs (w : World) (S : FS) (v : Value) (hs : List Value) (ls : List (List Nat)) : Prop where
  shp : Shp v ls.length
  len : hs.length = ls.length
  ro : RO w S v hs
  kid : ∀ (i : Nat) h l, hs[i]? = some h → ls[i]? = some l → Shp h l.length ∧ RO w S h (nV l)
end Go.Sl
namespace Go.Proofs.YtllkoinbfegonaaDoor
open Go.RowKit Go.Sl Fil
set_option maxRecDepth 100000
set_option maxHeartbeats 8000000
set_option linter.unusedVariables false
set_option linter.unusedSimpArgs false
attribute [local irreducible] Code.wp wpList bodyPost wpQuiet Exit.then Exit.inBlock Post wpAnyH wpOp
end Go.Proofs.YtllkoinbfegonaaDoor
end
section
set_option linter.unusedVariables false
set_option linter.unusedSectionVars false
namespace Fil
section
variable {α β : Type}
/-- from s through l to t, step by step by p -/
def st (p : α → α) : List α → α → α → Prop
  | [], s, t => s = t
  | a :: l, s, t => s = a ∧ st p l (p a) t
theorem st_app {p : α → α} : ∀ {a b : List α} {s t : α}, st p (a ++ b) s t ↔ ∃ m, st p a s m ∧ st p b m t
  | [], b, s, t => ⟨fun h => ⟨s, rfl, h⟩, fun ⟨m, h1, h2⟩ => by cases h1; exact h2⟩
  | x :: a, b, s, t => by
    simp only [List.cons_append, st]
    rw [st_app]
    exact ⟨fun ⟨h, m, h1, h2⟩ => ⟨m, ⟨h, h1⟩, h2⟩, fun ⟨m, ⟨h, h1⟩, h2⟩ => ⟨h, m, h1, h2⟩⟩
theorem st_congr {p q : α → α} : ∀ {l : List α} {s t : α}, (∀ a ∈ l, p a = q a) → st p l s t → st q l s t
  | [], s, t, _, h => h
  | a :: l, s, t, h, ⟨h1, h2⟩ => ⟨h1, st_congr (fun b hb => h b (.tail _ hb)) (by rw [← h a (.head _)]; exact h2)⟩
/-- a cycle -/
def Cy (p : α → α) (l : List α) : Prop := l ≠ [] ∧ ∃ s, st p l s s
theorem Cy.congr {p q : α → α} {l : List α} (h : Cy p l) (hq : ∀ a ∈ l, p a = q a) : Cy q l := ⟨h.1, h.2.imp fun _ => st_congr hq⟩
theorem Cy.cons {p : α → α} {x : α} {l : List α} : Cy p (x :: l) ↔ st p l (p x) x :=
  ⟨fun ⟨_, s, h1, h2⟩ => by subst h1; exact h2, fun h => ⟨by simp, x, rfl, h⟩⟩
theorem Cy.rot {p : α → α} {a b : List α} (h : Cy p (a ++ b)) : Cy p (b ++ a) := by
  obtain ⟨h1, s, h2⟩ := h
  obtain ⟨m, h3, h4⟩ := st_app.1 h2
  exact ⟨by simp_all [and_comm], m, st_app.2 ⟨s, h4, h3⟩⟩
theorem st_in {p : α → α} {S : α → Prop} (hS : ∀ z, S z → S (p z)) : ∀ {l : List α} {s t : α}, st p l s t → S s → (∀ z ∈ l, S z) ∧ S t
  | [], s, t, h, hs => by cases h; exact ⟨by simp, hs⟩
  | a :: l, s, t, ⟨h1, h2⟩, hs => by
    subst h1
    have := st_in hS h2 (hS _ hs)
    exact ⟨fun z hz => (List.mem_cons.1 hz).elim (fun e => e ▸ hs) (this.1 z), this.2⟩
theorem Cy.in {p : α → α} {S : α → Prop} (hS : ∀ z, S z → S (p z)) {l : List α} (h : Cy p l) {a : α} (ha : a ∈ l) (hs : S a) : ∀ z ∈ l, S z := by
  obtain ⟨l1, l2, rfl⟩ := List.append_of_mem ha
  have h2 := h.rot
  rw [List.cons_append, Cy.cons] at h2
  have := (st_in hS h2 (hS _ hs)).1
  intro z hz
  rcases List.mem_append.1 hz with hz | hz
  · exact this z (List.mem_append.2 (.inr hz))
  · rcases List.mem_cons.1 hz with rfl | hz
    · exact hs
    · exact this z (List.mem_append.2 (.inl hz))
theorem Cy.shut {p : α → α} {l : List α} (h : Cy p l) {a : α} (ha : a ∈ l) : p a ∈ l := by
  obtain ⟨l1, l2, rfl⟩ := List.append_of_mem ha
  have h2 := h.rot
  rw [List.cons_append, Cy.cons] at h2
  cases hr : l2 ++ l1 with
  | nil =>
    rw [hr] at h2
    have : p a = a := h2
    rw [this]; exact ha
  | cons b r =>
    rw [hr] at h2
    have : p a = b := h2.1
    have hb : b ∈ l2 ++ l1 := by rw [hr]; exact .head _
    rw [this]
    rcases List.mem_append.1 hb with hb | hb
    · exact List.mem_append.2 (.inr (.tail _ hb))
    · exact List.mem_append.2 (.inl hb)
theorem Cy.sub {p : α → α} {l m : List α} (h : Cy p l) (hm : Cy p m) {a : α} (ha : a ∈ l) (ham : a ∈ m) : ∀ z ∈ l, z ∈ m := h.in (S := (· ∈ m)) (fun z hz => hm.shut hz) ha ham
theorem perm_of_nodup {l m : List α} (hl : l.Nodup) (hm : m.Nodup) (h : ∀ a, a ∈ l ↔ a ∈ m) : l.Perm m := by
  classical
  exact (List.perm_ext_iff_of_nodup hl hm).2 h
theorem sub_length {l m : List α} (hl : l.Nodup) (h : ∀ a ∈ l, a ∈ m) : l.length ≤ m.length := by
  classical
  induction l generalizing m with
  | nil => simp
  | cons a l ih =>
    obtain ⟨m1, m2, rfl⟩ := List.append_of_mem (h a (.head _))
    rw [List.nodup_cons] at hl
    have := ih (m := m1 ++ m2) hl.2 fun b hb => by
      have h1 := h b (.tail _ hb)
      have h2 : b ≠ a := fun e => hl.1 (e ▸ hb)
      simp only [List.mem_append, List.mem_cons, h2, false_or] at h1
      simpa using h1
    simp only [List.length_append, List.length_cons] at this ⊢
    omega
/-- as many cycles, however they are told -/
theorem cy_count {p : α → α} : ∀ {C1 C2 : List (List α)}, (∀ l ∈ C1, Cy p l) → (∀ l ∈ C2, Cy p l) → C1.flatten.Perm C2.flatten → C1.flatten.Nodup → C1.length = C2.length
  | [], C2, _, h2, hp, _ => by
    cases C2 with
    | nil => rfl
    | cons l C2 =>
      exact absurd (by have := hp.symm.eq_nil; simp at this; exact this.1) (h2 l (.head _)).1
  | l :: C1, C2, h1, h2, hp, hn => by
    have hl := h1 l (.head _)
    obtain ⟨a, ha⟩ := List.exists_mem_of_ne_nil _ hl.1
    have ha2 : a ∈ C2.flatten := hp.mem_iff.1 (by simp [ha])
    obtain ⟨m, hm, ham⟩ := List.mem_flatten.1 ha2
    obtain ⟨x, y, rfl⟩ := List.append_of_mem hm
    have hn2 : (x ++ m :: y).flatten.Nodup := hp.nodup_iff.1 hn
    have hmc := h2 m (by simp)
    have hq : (x ++ m :: y).flatten.Perm (m ++ (x ++ y).flatten) := by
      simp only [List.flatten_append, List.flatten_cons]
      rw [← List.append_assoc, ← List.append_assoc]
      exact List.perm_append_comm.append_right _
    have nm : m.Nodup := (List.nodup_append.1 (hq.nodup_iff.1 hn2)).1
    have nl : l.Nodup := (List.nodup_append.1 (by simpa using hn)).1
    have hlm : l.Perm m := perm_of_nodup nl nm fun z => ⟨hl.sub hmc ha ham z, hmc.sub hl ham ha z⟩
    have hr : C1.flatten.Perm (x ++ y).flatten := by
      have : (l ++ C1.flatten).Perm (l ++ (x ++ y).flatten) := by
        have h3 : (l ++ C1.flatten).Perm (x ++ m :: y).flatten := by simpa using hp
        exact (h3.trans hq).trans (hlm.symm.append_right _)
      exact (List.perm_append_left_iff l).1 this
    have := cy_count (C1 := C1) (C2 := x ++ y) (fun l hl => h1 l (.tail _ hl)) (fun l hl => h2 l (by
      rcases List.mem_append.1 hl with h | h
      · exact List.mem_append.2 (.inl h)
      · exact List.mem_append.2 (.inr (.tail _ h)))) hr (List.nodup_append.1 (by simpa using hn)).2.1
    simp only [List.length_cons, List.length_append] at this ⊢
    omega
/-- all the cycles of a list -/
structure Dec (p : α → α) (ds : List α) (C : List (List α)) : Prop where
  nd : ds.Nodup
  cy : ∀ l ∈ C, Cy p l
  perm : C.flatten.Perm ds
theorem Dec.count {p : α → α} {ds : List α} {C1 C2 : List (List α)} (h1 : Dec p ds C1) (h2 : Dec p ds C2) : C1.length = C2.length :=
  cy_count h1.cy h2.cy (h1.perm.trans h2.perm.symm) (h1.perm.nodup_iff.2 h1.nd)
theorem Dec.order {p : α → α} {ds : List α} {C1 C2 : List (List α)} (h : Dec p ds C1) (hp : C1.Perm C2) : Dec p ds C2 :=
  ⟨h.nd, fun l hl => h.cy l (hp.mem_iff.2 hl), hp.symm.flatten.trans h.perm⟩
theorem Dec.congr {p q : α → α} {ds : List α} {C : List (List α)} (h : Dec p ds C) (hq : ∀ a ∈ ds, p a = q a) : Dec q ds C :=
  ⟨h.nd, fun l hl => (h.cy l hl).congr fun a ha => hq a (h.perm.mem_iff.1 (List.mem_flatten.2 ⟨l, hl, ha⟩)), h.perm⟩
theorem Dec.rot {p : α → α} {ds a b : List α} {C : List (List α)} (h : Dec p ds ((a ++ b) :: C)) : Dec p ds ((b ++ a) :: C) :=
  ⟨h.nd, fun l hl => (List.mem_cons.1 hl).elim (fun e => e ▸ (h.cy _ (.head _)).rot) fun hl => h.cy l (.tail _ hl), (by
    simp only [List.flatten_cons]
    exact (List.perm_append_comm.append_right _).trans (by have := h.perm; rwa [List.flatten_cons] at this))⟩
variable [DecidableEq α]
/-- two swapped ahead -/
def swp (p : α → α) (x y z : α) : α := if z = x then p y else if z = y then p x else p z
theorem swp_x (p : α → α) (x y : α) : swp p x y x = p y := if_pos rfl
theorem swp_y {p : α → α} {x y : α} (h : x ≠ y) : swp p x y y = p x := by rw [swp, if_neg (Ne.symm h), if_pos rfl]
theorem swp_o {p : α → α} {x y z : α} (hx : z ≠ x) (hy : z ≠ y) : swp p x y z = p z := by rw [swp, if_neg hx, if_neg hy]
theorem st_swp {p : α → α} {x y : α} {l : List α} {s t : α} (hx : x ∉ l) (hy : y ∉ l) (h : st p l s t) : st (swp p x y) l s t :=
  st_congr (fun a ha => (swp_o (p := p) (x := x) (y := y) (z := a) (fun e => hx (by rw [← e]; exact ha)) (fun e => hy (by rw [← e]; exact ha))).symm) h
theorem cy_swp {p : α → α} {x y : α} {l : List α} (hx : x ∉ l) (hy : y ∉ l) (h : Cy p l) : Cy (swp p x y) l := ⟨h.1, h.2.imp fun _ => st_swp hx hy⟩
theorem Dec.split {p : α → α} {ds A B : List α} {C : List (List α)} {x y : α} (h : Dec p ds ((x :: (A ++ y :: B)) :: C)) : Dec (swp p x y) ds ((x :: B) :: (y :: A) :: C) := by
  have hp := h.perm
  have hn := hp.nodup_iff.2 h.nd
  simp only [List.flatten_cons, List.cons_append, List.append_assoc, List.nodup_cons, List.mem_append, List.mem_cons, not_or, List.nodup_append, List.mem_flatten] at hn
  have hxy : x ≠ y := hn.1.2.1
  have n1 := hn.2.2.2
  refine ⟨h.nd, fun l hl => ?_, (?_ : List.Perm _ _).trans hp⟩
  · have xA : x ∉ A := hn.1.1
    have xB : x ∉ B := hn.1.2.2.1
    have yA : y ∉ A := fun hy => n1 _ hy _ (.inl rfl) rfl
    have yB : y ∉ B := hn.2.2.1.1.1
    have c := Cy.cons.1 (h.cy _ (.head _))
    obtain ⟨m, c1, e, c2⟩ := st_app.1 c
    rw [e] at c1
    rcases List.mem_cons.1 hl with rfl | hl
    · rw [Cy.cons, swp_x]
      exact st_swp xB yB c2
    · rcases List.mem_cons.1 hl with rfl | hl
      · rw [Cy.cons, swp_y hxy]
        exact st_swp xA yA c1
      · have hx : x ∉ l := fun hx => hn.1.2.2.2 ⟨l, hl, hx⟩
        have hy : y ∉ l := fun hy => hn.2.2.1.1.2 ⟨l, hl, hy⟩
        exact cy_swp hx hy (h.cy l (.tail _ hl))
  · simp only [List.flatten_cons, List.cons_append, List.append_assoc]
    refine List.Perm.cons x ?_
    have h1 : (B ++ y :: (A ++ C.flatten)).Perm (y :: (B ++ (A ++ C.flatten))) := List.perm_middle
    have h2 : (A ++ y :: (B ++ C.flatten)).Perm (y :: (A ++ (B ++ C.flatten))) := List.perm_middle
    refine h1.trans ((List.Perm.cons y ?_).trans h2.symm)
    rw [← List.append_assoc, ← List.append_assoc]
    exact List.perm_append_comm.append_right _
def tr (F : α → α) (d : α) : Nat → α → List α
  | 0, _ => []
  | n + 1, x => x :: if F x = d then [] else tr F d n (F x)
/-- on the way -/
structure InF (F : α → α) (ds : List α) (out : List (List α)) (d : α) (f : List α) (x : α) : Prop where
  st : st F f d x
  nd : f.Nodup
  sub : ∀ z ∈ f, z ∈ ds
  new : ∀ z ∈ f, z ∉ out.flatten
  mem : x ∈ ds
  far : x ∉ out.flatten
section
variable {F : α → α} {ds : List α} {out : List (List α)} {d x : α} {f : List α}
theorem st_pred : ∀ {l : List α} {s t z : α}, st F l s t → z ∈ l → z = s ∨ ∃ w ∈ l.dropLast, F w = z
  | a :: l, s, t, z, ⟨h1, h2⟩, hz => by
    rcases List.mem_cons.1 hz with rfl | hz
    · exact .inl h1.symm
    · right
      cases l with
      | nil => simp at hz
      | cons b l =>
        rcases st_pred h2 hz with e | ⟨w, hw, e⟩
        · exact ⟨a, by simp, e.symm⟩
        · exact ⟨w, by simp [hw], e⟩
theorem st_last : ∀ {l : List α} {s t : α} (h : l ≠ []), st F l s t → F (l.getLast h) = t
  | [a], s, t, h, ⟨_, h2⟩ => h2
  | a :: b :: l, s, t, h, ⟨_, h2⟩ => by
    rw [List.getLast_cons (by simp)]
    exact st_last (by simp) h2
/-- what was met is the way's beginning -/
theorem InF.met (h : InF F ds out d f x) (hi : ∀ a ∈ ds, ∀ b ∈ ds, F a = F b → a = b) (hx : x ∈ f) : x = d := by
  rcases st_pred h.st hx with e | ⟨w, hw, e⟩
  · exact e
  · exfalso
    have hne : f ≠ [] := fun e => by rw [e] at hx; simp at hx
    have hl := st_last hne h.st
    have e2 : w = f.getLast hne := hi _ (h.sub _ (List.dropLast_subset _ hw)) _ (h.sub _ (List.getLast_mem _)) (e.trans hl.symm)
    have := h.nd
    rw [← List.dropLast_concat_getLast hne, List.nodup_append] at this
    exact this.2.2 w hw (f.getLast hne) (by simp) e2
theorem InF.more (h : InF F ds out d f x) (hi : ∀ a ∈ ds, ∀ b ∈ ds, F a = F b → a = b) (hm : ∀ a ∈ ds, F a ∈ ds) (hc : ∀ l ∈ out, Cy F l) (ho : ∀ z ∈ out.flatten, z ∈ ds) (hne : f = [] ∨ x ≠ d) : x ∉ f ∧ InF F ds out d (f ++ [x]) (F x) := by
  have hx : x ∉ f := fun hx => by
    rcases hne with rfl | hne
    · simp at hx
    · exact hne (h.met hi hx)
  refine ⟨hx, st_app.2 ⟨x, h.st, rfl, rfl⟩, List.nodup_append.2 ⟨h.nd, by simp, fun a ha b hb e => by
    obtain rfl : b = x := by simpa using hb
    exact hx (e ▸ ha)⟩, fun z hz => ?_, fun z hz => ?_, hm _ h.mem, fun hf => ?_⟩
  · rcases List.mem_append.1 hz with hz | hz
    · exact h.sub z hz
    · obtain rfl : z = x := by simpa using hz
      exact h.mem
  · rcases List.mem_append.1 hz with hz | hz
    · exact h.new z hz
    · obtain rfl : z = x := by simpa using hz
      exact h.far
  · obtain ⟨l, hl, hz⟩ := List.mem_flatten.1 hf
    refine h.far ?_
    have hc1 := hc l hl
    obtain ⟨l1, l2, rfl⟩ := List.append_of_mem hz
    have hr := hc1.rot
    rw [List.cons_append] at hr
    have hs : Fil.st F (F x :: (l2 ++ l1)) (F x) (F x) := ⟨rfl, Cy.cons.1 hr⟩
    have hlast := st_last (by simp) hs
    have hmem : (F x :: (l2 ++ l1)).getLast (by simp) ∈ l1 ++ F x :: l2 := by
      have := List.getLast_mem (l := F x :: (l2 ++ l1)) (by simp)
      simp only [List.mem_cons, List.mem_append] at this ⊢
      rcases this with h | h | h
      · exact .inr (.inl h)
      · exact .inr (.inr h)
      · exact .inl h
    have hin : (F x :: (l2 ++ l1)).getLast (by simp) ∈ out.flatten := List.mem_flatten.2 ⟨_, hl, hmem⟩
    rwa [hi _ (ho _ hin) _ h.mem hlast] at hin
theorem InF.room (h : InF F ds out d f x) (hx : x ∉ f) : f.length + 1 ≤ ds.length := by
  have : (f ++ [x]).Nodup := List.nodup_append.2 ⟨h.nd, by simp, fun a ha b hb e => by
    obtain rfl : b = x := by simpa using hb
    exact hx (e ▸ ha)⟩
  have := sub_length this fun z hz => by
    rcases List.mem_append.1 hz with hz | hz
    · exact h.sub z hz
    · obtain rfl : z = x := by simpa using hz
      exact h.mem
  simpa using this
/-- the whole way -/
theorem InF.all (hi : ∀ a ∈ ds, ∀ b ∈ ds, F a = F b → a = b) (hm : ∀ a ∈ ds, F a ∈ ds) (hc : ∀ l ∈ out, Cy F l) (ho : ∀ z ∈ out.flatten, z ∈ ds) : ∀ (n : Nat) {f : List α} {x : α}, InF F ds out d f x → (f = [] ∨ x ≠ d) → ds.length ≤ f.length + n →
    InF F ds out d (f ++ tr F d n x) d ∧ f ++ tr F d n x ≠ []
  | 0, f, x, h, hne, hn => by
    have := h.room (h.more hi hm hc ho hne).1
    omega
  | n + 1, f, x, h, hne, hn => by
    obtain ⟨_, h1⟩ := h.more hi hm hc ho hne
    rw [tr]
    split
    · rename_i e
      rw [e] at h1
      exact ⟨h1, by simp⟩
    · rename_i e
      have := InF.all hi hm hc ho n h1 (.inr e) (by simp; omega)
      simp only [List.append_assoc, List.cons_append, List.nil_append] at this
      exact this
end
def facesStep (F : α → α) (n : Nat) (out : List (List α)) (d : α) : List (List α) := if d ∈ out.flatten then out else out ++ [tr F d n d]
structure Fs (F : α → α) (ds : List α) (out : List (List α)) : Prop where
  cy : ∀ l ∈ out, Cy F l
  nd : out.flatten.Nodup
  sub : ∀ z ∈ out.flatten, z ∈ ds
theorem Fs.start {F : α → α} {ds : List α} {out : List (List α)} {d : α} (h : Fs F ds out) (hd : d ∈ ds) (hf : d ∉ out.flatten) : InF F ds out d [] d := ⟨rfl, by simp, by simp, by simp, hd, hf⟩
theorem Fs.step {F : α → α} {ds : List α} {out : List (List α)} {d : α} {n : Nat} (hi : ∀ a ∈ ds, ∀ b ∈ ds, F a = F b → a = b) (hm : ∀ a ∈ ds, F a ∈ ds) (hn : ds.length ≤ n) (h : Fs F ds out) (hd : d ∈ ds) :
    Fs F ds (facesStep F n out d) ∧ d ∈ (facesStep F n out d).flatten ∧ ∀ z ∈ out.flatten, z ∈ (facesStep F n out d).flatten := by
  unfold facesStep
  split
  · rename_i hf
    exact ⟨h, hf, fun _ h => h⟩
  · rename_i hf
    obtain ⟨h1, hne⟩ := InF.all hi hm h.cy h.sub n (h.start hd hf) (.inl rfl) (by simpa using hn)
    simp only [List.nil_append] at h1 hne
    have hdin : d ∈ tr F d n d := by
      cases n with
      | zero => simp [tr] at hne
      | succ n => simp [tr]
    refine ⟨⟨fun l hl => ?_, ?_, fun z hz => ?_⟩, ?_, fun z hz => ?_⟩
    · rcases List.mem_append.1 hl with hl | hl
      · exact h.cy l hl
      · obtain rfl : l = tr F d n d := by simpa using hl
        exact ⟨hne, d, h1.st⟩
    · rw [List.flatten_append, List.nodup_append]
      refine ⟨h.nd, by simpa using h1.nd, fun a ha b hb e => ?_⟩
      simp only [List.flatten_cons, List.flatten_nil, List.append_nil] at hb
      exact h1.new b hb (e ▸ ha)
    · rw [List.flatten_append, List.mem_append] at hz
      rcases hz with hz | hz
      · exact h.sub z hz
      · exact h1.sub z (by simpa using hz)
    · simp [hdin]
    · rw [List.flatten_append, List.mem_append]
      exact .inl hz
end
end Fil
end
section
set_option linter.unusedVariables false
set_option linter.unusedSectionVars false
namespace Fil
def rev (d : (Nat × Nat)) : (Nat × Nat) := (d.2, d.1)
/-- the one behind, around -/
def cyc (l : List Nat) (u : Nat) : Nat := l.getD ((l.idxOf u + 1) % l.length) 0
def sg (R : Nat → List Nat) (d : (Nat × Nat)) : (Nat × Nat) := (d.1, cyc (R d.1) d.2)
def vc (R : Nat → List Nat) (v : Nat) : List (Nat × Nat) := (R v).map fun u => (v, u)
def dartsOf (R : Nat → List Nat) (c : List Nat) : List (Nat × Nat) := c.flatMap (vc R)
structure Sys (l : List (Nat × Nat)) (R : Nat → List Nat) : Prop where
  nd : ∀ v, (R v).Nodup
  ed : ∀ u v, u ∈ R v ↔ (v, u) ∈ l ∨ (u, v) ∈ l
  lt : ∀ e ∈ l, e.1 < e.2
  ndl : l.Nodup
theorem Sys.sym {l : List (Nat × Nat)} {R : Nat → List Nat} (hS : Sys l R) {u v : Nat} (h : u ∈ R v) : v ∈ R u := (hS.ed v u).2 ((hS.ed u v).1 h).symm
/-- around the vertices, but over these edges -/
def pS (R : Nat → List Nat) (S : List (Nat × Nat)) (d : (Nat × Nat)) : (Nat × Nat) := if d ∈ S ∨ rev d ∈ S then sg R (rev d) else sg R d
structure Tree (l : List (Nat × Nat)) (R : Nat → List Nat) (c : List Nat) (k : Nat) (S : List (Nat × Nat)) (big : List (Nat × Nat)) : Prop where
  nd : S.Nodup
  inl : ∀ e ∈ S, e ∈ l ∧ e.1 ∈ c.take k ∧ e.2 ∈ c.take k
  len : S.length + 1 = k
  dec : Dec (pS R S) (dartsOf R c) (big :: (c.drop k).map (vc R))
  big : ∀ d, d ∈ big ↔ d ∈ dartsOf R (c.take k)
  con : ∀ f : Nat → Nat, (∀ e ∈ S, f e.1 = f e.2) → ∀ u ∈ c.take k, ∀ v ∈ c.take k, f u = f v
theorem Dec.to {α : Type} {p : α → α} {ds es : List α} {C : List (List α)} (h : Dec p ds C) (hp : ds.Perm es) : Dec p es C := ⟨hp.nodup_iff.1 h.nd, h.cy, h.perm.trans hp⟩
end Fil
end
section
namespace Fil
/-- part: just those that were met from i on -/
structure Part (N i : Nat) (met : List Bool) (lab : Nat → Nat) (part : List Nat) : Prop where
  nodup : part.Nodup
  mem : ∀ u, u ∈ part ↔ u < N ∧ met.getD u false = true ∧ lab u = i
  le : ∀ u, met.getD u false = true → lab u ≤ i
theorem Part.start {N i : Nat} {met : List Bool} {lab : Nat → Nat} (hi : i < N) (hl : met.length = N) (hL : ∀ v, met.getD v false = true → lab v < i) : Part N i (met.set i true) (fun x => if x = i then i else lab x) [i] where
  nodup := by simp
  mem u := by
    rw [getD_set]
    by_cases e : u = i
    · subst e; simp [hi, hl]
    · have e' : ¬ i = u := fun h => e h.symm
      simp only [List.mem_singleton, e, e', false_and, if_false, false_iff]
      rintro ⟨h1, h2, h3⟩
      have := hL u h2
      omega
  le u hu := by
    rw [getD_set] at hu
    split
    · exact Nat.le_refl _
    · rename_i e
      rw [if_neg (by omega)] at hu
      exact Nat.le_of_lt (hL u hu)
theorem Part.new {N i u : Nat} {met : List Bool} {lab : Nat → Nat} {part : List Nat} (h : Part N i met lab part) (hu : u < N) (hl : met.length = N) (hm : met.getD u false = false) : Part N i (met.set u true) (fun x => if x = u then i else lab x) (part ++ [u]) where
  nodup := by
    refine List.nodup_append.2 ⟨h.nodup, by simp, ?_⟩
    intro a ha b hb e
    obtain rfl : b = u := by simpa using hb
    subst e
    have := ((h.mem a).1 ha).2.1
    rw [hm] at this; simp at this
  mem x := by
    rw [getD_set, List.mem_append, h.mem]
    by_cases e : x = u
    · subst e; simp [hu, hl]
    · have e' : ¬ u = x := fun h => e h.symm
      simp [e, e']
  le x hx := by
    rw [getD_set] at hx
    split
    · exact Nat.le_refl _
    · rename_i e
      rw [if_neg (by omega)] at hx
      exact h.le x hx
end Fil
end
section
namespace Fil
theorem RightG.filter {n : Int} {es : List E} (h : RightG n es) (p : E → Bool) : RightG n (es.filter p) where
  lo := h.lo
  hi := h.hi
  many := Nat.le_trans (List.length_filter_le _ _) h.many
  ok e he := h.ok e (List.mem_filter.1 he).1
  sorted := h.sorted.filter _
end Fil
end
section
namespace Fil
def rounds (f : List Nat → Nat × Nat → List Nat) (es : List (Nat × Nat)) : Nat → List Nat → List Nat
  | 0, l => l
  | k + 1, l => es.foldl f (rounds f es k l)
/-- what a step keeps and gives, said of values t: where R a b, an exact a gives an exact b -/
structure Relax (N : Nat) (f : List Nat → Nat × Nat → List Nat) (t : Nat → Nat) (es : List (Nat × Nat)) (R : Nat → Nat → Prop) : Prop where
  len : ∀ l e, (f l e).length = l.length
  ge : ∀ l, l.length = N → ∀ e ∈ es, (∀ v, v < N → t v ≤ l.getD v 0) → ∀ v, v < N → t v ≤ (f l e).getD v 0
  le : ∀ l e v, (f l e).getD v 0 ≤ l.getD v 0
  give : ∀ l, l.length = N → ∀ e ∈ es, (∀ v, v < N → t v ≤ l.getD v 0) → ∀ a b, e = (a, b) ∨ e = (b, a) → R a b → l.getD a 0 = t a → (f l e).getD b 0 = t b
theorem Relax.keep {N : Nat} {f : List Nat → Nat × Nat → List Nat} {t : Nat → Nat} {es : List (Nat × Nat)} {R : Nat → Nat → Prop} (h : Relax N f t es R) : ∀ (r : List (Nat × Nat)), (∀ e ∈ r, e ∈ es) → ∀ l, l.length = N → (∀ v, v < N → t v ≤ l.getD v 0) →
    (r.foldl f l).length = N ∧ (∀ v, v < N → t v ≤ (r.foldl f l).getD v 0) ∧ ∀ v, v < N → l.getD v 0 = t v → (r.foldl f l).getD v 0 = t v
  | [], _, l, hl, hg => ⟨hl, hg, fun _ _ h => h⟩
  | e :: r, hr, l, hl, hg => by
    have hg' := h.ge l hl e (hr e (by simp)) hg
    obtain ⟨h1, h2, h3⟩ := h.keep r (fun x hx => hr x (by simp [hx])) (f l e) (by rw [h.len, hl]) hg'
    refine ⟨h1, h2, fun v hv hx => h3 v hv ?_⟩
    have := hg' v hv
    have := h.le l e v
    omega
theorem Relax.gives {N : Nat} {f : List Nat → Nat × Nat → List Nat} {t : Nat → Nat} {es : List (Nat × Nat)} {R : Nat → Nat → Prop} (h : Relax N f t es R) {a b : Nat} (ha : a < N) (hb : b < N) (hR : R a b) : ∀ (r : List (Nat × Nat)), (∀ e ∈ r, e ∈ es) → ∀ l, l.length = N → (∀ v, v < N → t v ≤ l.getD v 0) → ((a, b) ∈ r ∨ (b, a) ∈ r) → l.getD a 0 = t a → (r.foldl f l).getD b 0 = t b
  | [], _, _, _, _, hm, _ => by simp at hm
  | e :: r, hr, l, hl, hg, hm, hx => by
    have hg' := h.ge l hl e (hr e (by simp)) hg
    have hl' : (f l e).length = N := by rw [h.len, hl]
    have hr' : ∀ x ∈ r, x ∈ es := fun x hx => hr x (by simp [hx])
    by_cases he : e = (a, b) ∨ e = (b, a)
    · exact (h.keep r hr' (f l e) hl' hg').2.2 b hb (h.give l hl e (hr e (by simp)) hg a b he hR hx)
    · refine h.gives ha hb hR r hr' (f l e) hl' hg' ?_ ?_
      · rcases hm with hm | hm
        · rcases List.mem_cons.1 hm with h1 | h1
          · exact absurd (.inl h1.symm) he
          · exact .inl h1
        · rcases List.mem_cons.1 hm with h1 | h1
          · exact absurd (.inr h1.symm) he
          · exact .inr h1
      · have := hg' a ha
        have := h.le l e a
        omega
theorem Relax.rounds {N : Nat} {f : List Nat → Nat × Nat → List Nat} {t o : Nat → Nat} {es : List (Nat × Nat)} {R : Nat → Nat → Prop} (h : Relax N f t es R) {l : List Nat} (hl : l.length = N) (hg : ∀ v, v < N → t v ≤ l.getD v 0) (h0 : ∀ v, v < N → o v = 0 → l.getD v 0 = t v)
    (hs : ∀ v k, v < N → o v = k + 1 → ∃ u, u < N ∧ o u = k ∧ R u v ∧ ((u, v) ∈ es ∨ (v, u) ∈ es)) : ∀ k, (Fil.rounds f es k l).length = N ∧ (∀ v, v < N → t v ≤ (Fil.rounds f es k l).getD v 0) ∧ ∀ v, v < N → o v ≤ k → (Fil.rounds f es k l).getD v 0 = t v
  | 0 => ⟨hl, hg, fun v hv hk => h0 v hv (by omega)⟩
  | k + 1 => by
    obtain ⟨h1, h2, h3⟩ := h.rounds hl hg h0 hs k
    obtain ⟨h4, h5, h6⟩ := h.keep es (fun _ h => h) _ h1 h2
    refine ⟨h4, h5, fun v hv hk => ?_⟩
    by_cases e : o v ≤ k
    · exact h6 v hv (h3 v hv e)
    · obtain ⟨u, hu, hok, hR, hm⟩ := hs v k hv (by omega)
      exact h.gives hu hv hR es (fun _ h => h) _ h1 h2 hm (h3 u hu (by omega))
end Fil
end
section
namespace Fil
theorem Lev.congr {N : Nat} {A B : Nat → List Nat} {o lab : Nat → Nat} (h : Lev N A o lab) (hAB : ∀ v, v < N → ∀ u, u ∈ A v ↔ u ∈ B v) : Lev N B o lab where
  edge w hw u hu := h.edge w hw u ((hAB w hw u).2 hu)
  up v k hv hk := by
    obtain ⟨u, hu, h2⟩ := h.up v k hv hk
    exact ⟨u, (hAB v hv u).1 hu, h2⟩
  root := h.root
  le := h.le
  idem := h.idem
  conn v hv c hc := h.conn v hv c fun w hw u hu => hc w hw u ((hAB w hw u).1 hu)
end Fil
end
section
set_option linter.unusedVariables false
set_option linter.unusedSectionVars false
namespace Fil
abbrev rf (R : List (List Nat)) (v : Nat) : List Nat := R.getD v []
structure RotL (N : Nat) (l : List (Nat × Nat)) (R : List (List Nat)) : Prop where
  len : R.length = N
  perm : ∀ v, v < N → (rf R v).Perm (nb l v)
variable {n : Int} {es : List E} {R : List (List Nat)} {o lab : Nat → Nat}
theorem good_ne {N : Nat} {l : List (Nat × Nat)} (hG : Good N l) : ∀ e ∈ l, e.1 ≠ e.2 := fun e he => by have := hG.lt e he; omega
theorem RotL.mem (hR : RightG n es) (h : RotL n.toNat (tn es) R) {u v : Nat} : u ∈ rf R v ↔ u ∈ nb (tn es) v := by
  by_cases hv : v < n.toNat
  · exact (h.perm v hv).mem_iff
  · have h1 : rf R v = [] := by rw [rf, List.getD_eq_getElem?_getD, List.getElem?_eq_none (by have := h.len; omega)]; rfl
    rw [h1]
    refine ⟨fun h => by simp at h, fun h => ?_⟩
    exfalso
    have hG := hR.good
    rcases (mem_nb (good_ne hG)).1 h with h | h
    · have := hG.lt _ h; simp at this; omega
    · have := hG.lt _ h; simp at this; omega
theorem RotL.lt (hR : RightG n es) (h : RotL n.toNat (tn es) R) {u v : Nat} (hu : u ∈ rf R v) : u < n.toNat ∧ v < n.toNat := by
  have hG := hR.good
  rcases (mem_nb (good_ne hG)).1 ((h.mem hR).1 hu) with h | h
  · have := hG.lt _ h; simp at this; omega
  · have := hG.lt _ h; simp at this; omega
theorem Dec.nil {α : Type} {p : α → α} {C : List (List α)} (h : Dec p [] C) : C = [] := by
  cases C with
  | nil => rfl
  | cons l C =>
    have := h.perm.eq_nil
    simp at this
    exact absurd this.1 (h.cy l (.head _)).1
end Fil
end
section
set_option linter.unusedVariables false
namespace Fil
end Fil
namespace Go.Sl
open Go Go.RowKit
/-- rows that are read, by rows of integers -/
structure ROsI (w : World) (S : FS) (v : Value) (hs : List Value) (ls : List (List Int)) : Prop where
  shp : Shp v ls.length
  len : hs.length = ls.length
  ro : RO w S v hs
  kid : ∀ (i : Nat) h l, hs[i]? = some h → ls[i]? = some l → Shp h l.length ∧ RO w S h (iV l)
def intL (R : List (List Nat)) : List (List Int) := R.map fun l => l.map fun (k : Nat) => (k : Int)
theorem ROs.int {w : World} {S : FS} {v : Value} {hs : List Value} {R : List (List Nat)} (h : ROs w S v hs R) : ROsI w S v hs (intL R) :=
  ⟨by simpa [intL] using h.shp, by simpa [intL] using h.len, h.ro, fun i x l h1 h2 => by
    simp only [intL, List.getElem?_map, Option.map_eq_some_iff] at h2
    obtain ⟨l', h2, rfl⟩ := h2
    have := h.kid i x l' h1 h2
    rw [← nV_iV]
    exact ⟨by simpa using this.1, this.2⟩⟩
end Go.Sl
namespace Go.Proofs.YtllkoinbfegonaaDoor
open Go.RowKit Go.Sl Fil
set_option maxRecDepth 100000
set_option maxHeartbeats 8000000
set_option linter.unusedVariables false
set_option linter.unusedSimpArgs false
attribute [local irreducible] Code.wp wpList bodyPost wpQuiet Exit.then Exit.inBlock Post wpAnyH wpOp
end Go.Proofs.YtllkoinbfegonaaDoor
end
section
set_option linter.unusedVariables false
namespace Fil
end Fil
namespace Go.Proofs.YtllkoinbfegonaaDoor
open Go.RowKit Go.Sl Fil
set_option maxRecDepth 100000
set_option maxHeartbeats 8000000
set_option linter.unusedVariables false
set_option linter.unusedSimpArgs false
attribute [local irreducible] Code.wp wpList bodyPost wpQuiet Exit.then Exit.inBlock Post wpAnyH wpOp
end Go.Proofs.YtllkoinbfegonaaDoor
end
section
set_option linter.unusedSimpArgs false
set_option linter.unusedVariables false
namespace Go.Sl
open Go Go.Proofs Go.RowKit Go.Maps
end Go.Sl
namespace Go.Proofs
open Go Go.RowKit Go.Maps Go.Sl
end Go.Proofs
end
section
set_option linter.unusedVariables false
namespace Fil
end Fil
namespace Go.Proofs.YtllkoinbfegonaaDoor
open Go.RowKit Go.Sl Fil
set_option maxRecDepth 100000
set_option maxHeartbeats 8000000
set_option linter.unusedVariables false
set_option linter.unusedSimpArgs false
attribute [local irreducible] Code.wp wpList bodyPost wpQuiet Exit.then Exit.inBlock Post wpAnyH wpOp
end Go.Proofs.YtllkoinbfegonaaDoor
end
section
set_option linter.unusedVariables false
namespace Fil
end Fil
namespace Go.Proofs.YtllkoinbfegonaaDoor
open Go.RowKit Go.Sl Fil
set_option maxRecDepth 100000
set_option maxHeartbeats 8000000
set_option linter.unusedVariables false
set_option linter.unusedSimpArgs false
attribute [local irreducible] Code.wp wpList bodyPost wpQuiet Exit.then Exit.inBlock Post wpAnyH wpOp
end Go.Proofs.YtllkoinbfegonaaDoor
end
section
set_option linter.unusedVariables false
set_option linter.unusedSectionVars false
namespace Fil
variable {n : Int} {es : List E} {R : List (List Nat)} {o lab : Nat → Nat}
theorem tr_of {α : Type} [DecidableEq α] {F : α → α} {d : α} : ∀ {l : List α} {x : α} {n : Nat}, st F l x d → l ≠ [] → d ∉ l.tail → l.length ≤ n → tr F d n x = l
  | [], _, _, _, h, _, _ => absurd rfl h
  | a :: l, x, 0, _, _, _, h => by simp at h
  | a :: l, x, n + 1, ⟨e, h⟩, _, hd, hn => by
    subst e
    cases l with
    | nil =>
      have : F x = d := h
      rw [tr, if_pos this]
    | cons b l =>
      have hb : F x = b := h.1
      have hd' : d ∉ b :: l := hd
      rw [tr, if_neg fun e => hd' (by rw [← e, hb]; exact .head _)]
      exact congrArg _ (tr_of h (by simp) (fun h => hd' (.tail _ h)) (by simpa using hn))
theorem InF.tr {α : Type} [DecidableEq α] {F : α → α} {ds : List α} {out : List (List α)} {d : α} {f : List α} (h : InF F ds out d f d) (hf : f ≠ []) {n : Nat} (hn : f.length ≤ n) : tr F d n d = f := by
  refine tr_of h.st hf (fun hd => ?_) hn
  cases f with
  | nil => exact absurd rfl hf
  | cons a f =>
    have e : d = a := h.st.1
    have := (List.nodup_cons.1 h.nd).1
    exact this (e ▸ hd)
end Fil
end
section
set_option linter.unusedVariables false
namespace Go.Proofs
open Go.Shelf
end Go.Proofs
namespace Go.Sl
open Go Go.RowKit Go.Sort Go.Proofs Fil
theorem putCells_id (cur : Array Value) (off : Nat) (ts : List Value) (h : off + ts.length ≤ cur.size) : ((putCells id off ts.toArray cur).toList.drop off).take ts.length = ts := by
  apply List.ext_getElem?
  intro j
  by_cases hj : j < ts.length
  · rw [List.getElem?_take_of_lt hj, List.getElem?_drop, Array.getElem?_toList]
    simp [putCells, hj, show off + j < cur.size by omega]
  · rw [List.getElem?_take_eq_none (by omega), List.getElem?_eq_none (by omega)]
theorem mod_grow {w w' : World} {S' : FS} (h : Mod w No w' S') : ∃ q os', w' = grow (w.drewN q) os' := by
  refine ⟨w'.drawn - w.drawn, w'.heap.extract w.heap.size w'.heap.size, ?_⟩
  obtain ⟨heap, tape, drawn, os, output⟩ := w
  obtain ⟨heap', tape', drawn', os', output'⟩ := w'
  obtain ⟨h1, h2, h3, h4, h5, h6, _⟩ := h
  dsimp only at *
  subst h1 h2 h3
  simp only [grow, World.drewN, World.mk.injEq, true_and, and_true]
  refine ⟨?_, by omega⟩
  apply Array.ext_getElem?
  intro k
  by_cases hk : k < heap.size
  · rw [Array.getElem?_append_left hk]
    exact h6 k hk (fun h => h)
  · rw [Array.getElem?_append_right (by omega)]
    by_cases hk2 : k < heap'.size
    · rw [Array.getElem?_extract]
      simp
      rw [show heap.size + (k - heap.size) = k by omega]
      rw [if_pos (by omega)]
    · rw [Array.getElem?_eq_none (by omega), Array.getElem?_eq_none (by simp; omega)]
end Go.Sl
namespace Go.Proofs.YtllkoinbfegonaaDoor
open Go.RowKit Go.Sl Fil Go.Sort Go.Shelf
end Go.Proofs.YtllkoinbfegonaaDoor
end
section
set_option linter.unusedVariables false
namespace Go.Proofs
open Go.Shelf
def Tryd.sortEdges_ren : Go.Shelf.Ren := ⟨fun | 6 => 61 | 15 => 68 | 14 => 67 | 28 => 87 | 29 => 88 | 20 => 79 | 21 => 80 | 22 => 81 | 23 => 82 | 24 => 83 | 25 => 84 | 26 => 85 | 27 => 86 | 46 => 101 | 47 => 102 | 48 => 103 | 49 => 104 | 50 => 105 | 57 => 111 | n => n, fun | 22 => 54 | 24 => 60 | 25 => 128 | 3 => 3 | 39 => 134 | 0 => 0 | 53 => 153 | 55 => 90 | 4 => 4 | 46 => 146 | 45 => 145 | 50 => 150 | 5 => 5 | 9 => 9 | 66 => 163 | 70 => 167 | 76 => 171 | 77 => 172 | n => n, fun | n => n⟩
theorem Tryd.sortEdges : Go.Proofs.SlLaysF0.n6 Tryd.prog Tryd.sortEdges_ren := {
  mixed := by kernel_rfl
  f6 := ⟨Tryd.f61.name, by decide, Tryd.func61.trans (congrArg some (by kernel_rfl))⟩
  f14 := ⟨Tryd.f67.name, by decide, Tryd.func67.trans (congrArg some (by kernel_rfl))⟩
  f15 := Tryd.func68.trans (congrArg some (by kernel_rfl))
  f20 := ⟨Tryd.f79.name, by decide, Tryd.func79.trans (congrArg some (by kernel_rfl))⟩
  f21 := ⟨Tryd.f80.name, by decide, Tryd.func80.trans (congrArg some (by kernel_rfl))⟩
  f22 := ⟨Tryd.f81.name, by decide, Tryd.func81.trans (congrArg some (by kernel_rfl))⟩
  f23 := ⟨Tryd.f82.name, by decide, Tryd.func82.trans (congrArg some (by kernel_rfl))⟩
  f24 := ⟨Tryd.f83.name, by decide, Tryd.func83.trans (congrArg some (by kernel_rfl))⟩
  f25 := ⟨Tryd.f84.name, by decide, Tryd.func84.trans (congrArg some (by kernel_rfl))⟩
  f26 := ⟨Tryd.f85.name, by decide, Tryd.func85.trans (congrArg some (by kernel_rfl))⟩
  f27 := ⟨Tryd.f86.name, by decide, Tryd.func86.trans (congrArg some (by kernel_rfl))⟩
  f28 := Tryd.func87.trans (congrArg some (by kernel_rfl))
  f29 := Tryd.func88.trans (congrArg some (by kernel_rfl))
  f46 := ⟨Tryd.f101.name, by decide, Tryd.func101.trans (congrArg some (by kernel_rfl))⟩
  f47 := Tryd.func102.trans (congrArg some (by kernel_rfl))
  f48 := Tryd.func103.trans (congrArg some (by kernel_rfl))
  f49 := ⟨Tryd.f104.name, by decide, Tryd.func104.trans (congrArg some (by kernel_rfl))⟩
  f50 := ⟨Tryd.f105.name, by decide, Tryd.func105.trans (congrArg some (by kernel_rfl))⟩
  f57 := ⟨Tryd.f111.name, by decide, Tryd.func111.trans (congrArg some (by kernel_rfl))⟩
  t0 := Tryd.underlying0
  a0 := Tryd.isAgg0
  z0 := Tryd.sizeOf0
  v0 := Tryd.zeroValue0
  t3 := Tryd.underlying3
  a3 := Tryd.isAgg3
  z3 := Tryd.sizeOf3
  v3 := Tryd.zeroValue3
  t4 := Tryd.underlying4
  a4 := Tryd.isAgg4
  z4 := Tryd.sizeOf4
  v4 := Tryd.zeroValue4
  t5 := Tryd.underlying5
  a5 := Tryd.isAgg5
  z5 := Tryd.sizeOf5
  v5 := Tryd.zeroValue5
  t9 := Tryd.underlying9
  a9 := Tryd.isAgg9
  z9 := Tryd.sizeOf9
  v9 := Tryd.zeroValue9
  t22 := Tryd.underlying54
  a22 := Tryd.isAgg54
  z22 := Tryd.sizeOf54
  v22 := Tryd.zeroValue54
  t25 := Tryd.underlying128
  a25 := Tryd.isAgg128
  z25 := Tryd.sizeOf128
  v25 := Tryd.zeroValue128
  t39 := Tryd.underlying134
  a39 := Tryd.isAgg134
  z39 := Tryd.sizeOf134
  v39 := Tryd.zeroValue134
  t45 := Tryd.underlying145
  a45 := Tryd.isAgg145
  z45 := Tryd.sizeOf145
  v45 := Tryd.zeroValue145
  t46 := Tryd.underlying146
  a46 := Tryd.isAgg146
  z46 := Tryd.sizeOf146
  v46 := Tryd.zeroValue146
  t50 := Tryd.underlying150
  a50 := Tryd.isAgg150
  z50 := Tryd.sizeOf150
  v50 := Tryd.zeroValue150
  t53 := Tryd.underlying153
  a53 := Tryd.isAgg153
  z53 := Tryd.sizeOf153
  v53 := Tryd.zeroValue153
  t55 := Tryd.underlying90
  a55 := Tryd.isAgg90
  z55 := Tryd.sizeOf90
  v55 := Tryd.zeroValue90
  t66 := Tryd.underlying163
  a66 := Tryd.isAgg163
  z66 := Tryd.sizeOf163
  v66 := Tryd.zeroValue163
  t70 := Tryd.underlying167
  a70 := Tryd.isAgg167
  z70 := Tryd.sizeOf167
  v70 := Tryd.zeroValue167
  t76 := Tryd.underlying171
  a76 := Tryd.isAgg171
  z76 := Tryd.sizeOf171
  v76 := Tryd.zeroValue171
  t77 := Tryd.underlying172
  a77 := Tryd.isAgg172
  z77 := Tryd.sizeOf172
  v77 := Tryd.zeroValue172 }
end Go.Proofs
namespace Go.Proofs.YtllkoinbfegonaaDoor
open Go Go.RowKit Go.Sl Fil Go.Sort Go.Shelf
theorem flat_esV (l : List E) : (flatK eV 3 l.toArray).toList = esV l := by
  apply List.ext_getElem?
  intro j
  by_cases hj : j < l.length * 3
  · obtain ⟨d, hd⟩ : ∃ d, l[j / 3]? = some d := ⟨_, List.getElem?_eq_getElem (by omega)⟩
    have g1 := esV_at hd
    have hlt : j / 3 < l.length := by omega
    have hdd : l[j / 3] = d := (List.getElem?_eq_some_iff.1 hd).2
    have e1 : (flatK eV 3 l.toArray).toList[j]? = some ((eV d)[j % 3]!) := by
      rw [Array.getElem?_toList]
      simp [flatK, hj, hlt, hdd]
    have e2 : (esV l)[j]? = (eV d)[j % 3]? := by
      rw [← g1, List.getElem?_take_of_lt (by omega), List.getElem?_drop]
      congr 1; omega
    rw [e1, e2]
    have : j % 3 = 0 ∨ j % 3 = 1 ∨ j % 3 = 2 := by omega
    rcases this with h | h | h <;> rw [h] <;> rfl
  · rw [List.getElem?_eq_none (by simp; omega), List.getElem?_eq_none (by rw [esV_length]; omega)]
theorem cmpK_lt3 {a b : Int} : cmpK a b < 0 ↔ a < b := by
  unfold cmpK
  (repeat' split) <;> omega
theorem cmpK_eq3 {a b : Int} : cmpK a b = 0 ↔ a = b := by
  unfold cmpK
  (repeat' split) <;> omega
theorem orderE_lt {a b : E} : orderK a b < 0 ↔ a.1 < b.1 ∨ a.1 = b.1 ∧ a.2.1 < b.2.1 := by
  unfold orderK
  split
  · rename_i h
    have := cmpK_eq3.1 h
    rw [cmpK_lt3]; omega
  · rename_i h
    have : ¬ a.1 = b.1 := fun e => h (cmpK_eq3.2 e)
    rw [cmpK_lt3]; omega
theorem swo_E : SWO (ltOf orderK) where
  irrefl x := decide_eq_false fun h => by have := orderE_lt.1 h; omega
  trans x y z h1 h2 := by
    have a := orderE_lt.1 (of_decide_eq_true h1)
    have b := orderE_lt.1 (of_decide_eq_true h2)
    exact decide_eq_true (orderE_lt.2 (by omega))
  ntrans x y z h1 h2 := by
    have a : ¬ _ := fun h => of_decide_eq_false h1 (orderE_lt.2 h)
    have b : ¬ _ := fun h => of_decide_eq_false h2 (orderE_lt.2 h)
    exact decide_eq_false fun h => by have := orderE_lt.1 h; omega
theorem edgeSort_row {w : World} {v : Value} {e : TypeId} {l : List E} {S : FS} (h : (rowHP v e 3 l.length (esV l)).sat S w) (hlen : l.length < 4611686018427387904) :
    Calls Tryd.prog 61 #[v, .func (.func 62) #[] #[]] w (Post w S fun r L' => r = .tuple #[] ∧ ∃ l' : List E, l'.Perm l ∧ l'.Pairwise (fun a b => ¬ orderK b a < 0) ∧ L' = [rowHP v e 3 l.length (esV l')]) := by
  have hnone : l.length = 0 → ∀ p, v = .slice p 0 0 → Calls Tryd.prog 61 #[v, .func (.func 62) #[] #[]] w (Post w S fun r L' => r = .tuple #[] ∧ ∃ l' : List E, l'.Perm l ∧ l'.Pairwise (fun a b => ¬ orderK b a < 0) ∧ L' = [rowHP v e 3 l.length (esV l')]) := fun h0 p hp => by
    have hl : l = [] := List.eq_nil_of_length_eq_zero h0
    subst hl
    subst hp
    have c := AnyF.slices_SortFunc_none Tryd.sortEdges p 0 (.func (.func 62) #[] #[]) w
    change Calls Tryd.prog 61 _ _ _ at c
    refine Calls.mono c ?_
    rintro e' w' ⟨rfl, hw⟩
    subst hw
    refine ⟨_, _, ⟨rfl, [], .refl _, .nil, rfl⟩, rfl, S, Mod.refl _ _, S, fun _ => False, fun _ h => h, fun _ h => h.elim, fun _ _ h => h, ?_, trivial⟩
    simpa [esV] using h
  rcases h.2 with ⟨h1, h0⟩ | ⟨g, off, cap, cur, rfl, h2, h3, h4, h5, h6, h7⟩ | ⟨⟨a0, h1⟩, h0⟩
  · exact hnone h0 none h1
  · have hg := (Array.getElem?_eq_some_iff.1 h3).1
    have hsz : (flatK eV 3 l.toArray).size = l.length * 3 := by simp
    have hH : HoldsK eV 3 w g off l.toArray := by
      intro j hj
      rw [hsz] at hj
      have hj2 : j < (flatK eV 3 l.toArray).size := by rw [hsz]; exact hj
      refine ⟨?_, by simp [World.frozen?, h3]⟩
      have h8 : ((cur.toList.drop off).take (l.length * 3))[j]? = (esV l)[j]? := by rw [h7]
      rw [List.getElem?_take_of_lt (by omega), List.getElem?_drop] at h8
      simp only [World.cell?, h3]
      simp only [Option.isSome_none, Bool.false_eq_true, if_false]
      rw [← Array.getElem?_toList, h8, ← flat_esV, Array.getElem?_toList, Array.getElem?_eq_getElem hj2, getElem!_pos _ j hj2]
      rfl
    have c := AnyQ.slices_SortFunc Tryd.sortEdges 3 (fun w => Tryd.isAgg60 w) (fun w => Tryd.sizeOf60 w) eV (fun _ => rfl) (fun x u hu => by
      simp only [eV, List.mem_cons, List.not_mem_nil, or_false] at hu
      rcases hu with rfl | rfl | rfl <;> rfl) orderK swo_E 62 #[] g off cap l.toArray w (fun args w => FnTy.c (P := Tryd.prog) (f := 62) args w) (fun m os dk _ x y => (order_ok x y _).mono fun e' w' ⟨u, L', ⟨hu, hL⟩, he, S', hm, _⟩ => by
        subst hu
        exact ⟨he, mod_grow hm⟩) hH hg (by simpa using hlen)
    change Calls Tryd.prog 61 _ _ _ at c
    refine Calls.mono c ?_
    rintro e' w' ⟨rfl, d', n, os, ⟨hp1, _, hp3⟩, hso, rfl⟩
    have hds : d'.size = l.length := by simpa using hp1
    have hperm : d'.toList.Perm l := by
      have e1 : d'.extract 0 l.toArray.size = d' := by rw [← hp1]; exact Array.extract_size
      rw [e1, Array.extract_size] at hp3
      simpa using hp3
    have hlen' : d'.toList.length = l.length := hperm.length_eq
    have hpw : d'.toList.Pairwise (fun a b => ¬ orderK b a < 0) := by
      rw [List.pairwise_iff_getElem]
      intro i j hi hj hij hlt
      have h9 := hso i j (Nat.zero_le _) hij (by simp at hj ⊢; omega)
      rw [getElem!_pos d' j (by simpa using hj), getElem!_pos d' i (by simpa using hi)] at h9
      exact of_decide_eq_false h9 (by simpa using hlt)
    have hfl : flatK eV 3 d' = (esV d'.toList).toArray := by
      rw [← flat_esV, Array.toArray_toList, Array.toArray_toList]
    generalize hd' : d'.toList = m at *
    refine ⟨_, _, ⟨rfl, m, hperm, hpw, rfl⟩, rfl, S, ⟨rfl, rfl, rfl, Nat.le_add_right _ _, by simp [sortWorldK, putRowK], fun k hk hS => ?_, fun k h => .inl h⟩, S, fun _ => False, fun _ h => h, fun _ h => h.elim, fun _ _ h => h, ?_, trivial⟩
    · rw [sortWorldK, heap_grow_old _ _ (by simpa [putRowK] using hk)]
      have : g ≠ k := fun e => hS (by rw [← e]; exact h2)
      simp [putRowK, putRow, mapBlock, Sort.ahead, Array.getElem?_modify, this]
    · refine ⟨by rw [esV_length, hlen'], .inr (.inl ⟨g, off, cap, putCells id off (esV m).toArray cur, rfl, h2, ?_, h4, h5, by simp [putCells, h6], ?_⟩)⟩
      · rw [sortWorldK, heap_grow_old _ _ (by simpa [putRowK] using hg), putRowK, hfl]
        simp [putRow, mapBlock, Sort.ahead, Array.getElem?_modify, h3, onCells]
      · have := putCells_id cur off (esV m) (by rw [esV_length, hlen', h6]; omega)
        rw [esV_length, hlen'] at this
        exact this
  · exact hnone h0 (some a0) h1
end Go.Proofs.YtllkoinbfegonaaDoor
end
section
namespace Go.Proofs.YtllkoinbfegonaaDoor
open Go.RowKit Go.Sl Fil
set_option maxRecDepth 100000
set_option maxHeartbeats 8000000
set_option linter.unusedVariables false
set_option linter.unusedSimpArgs false
attribute [local irreducible] Code.wp wpList bodyPost wpQuiet Exit.then Exit.inBlock Post wpAnyH wpOp
end Go.Proofs.YtllkoinbfegonaaDoor
end
section
namespace Go.Proofs.YtllkoinbfegonaaDoor
open Go.RowKit Go.Sl Fil
set_option maxRecDepth 100000
set_option maxHeartbeats 8000000
set_option linter.unusedVariables false
set_option linter.unusedSimpArgs false
attribute [local irreducible] Code.wp wpList bodyPost wpQuiet Exit.then Exit.inBlock Post wpAnyH wpOp
end Go.Proofs.YtllkoinbfegonaaDoor
end
section
namespace Go.Proofs.YtllkoinbfegonaaDoor
open Go.RowKit Go.Sl Fil
set_option maxRecDepth 100000
set_option maxHeartbeats 8000000
set_option linter.unusedVariables false
set_option linter.unusedSimpArgs false
attribute [local irreducible] Code.wp wpList bodyPost wpQuiet Exit.then Exit.inBlock Post wpAnyH wpOp
end Go.Proofs.YtllkoinbfegonaaDoor
end
section
namespace Fil
def swapE (e : E) : E := if e.2.1 < e.1 then (e.2.1, e.1, e.2.2) else e
def posE (g : List E) (e : E) : Nat → Nat
  | 0 => 0
  | k + 1 => if belowB e (g.getD k (0, 0, 0)) then posE g e k else k + 1
def insE (g : List E) (e : E) : List E := g.take (posE g e g.length) ++ [e] ++ g.drop (posE g e g.length)
def twE (g : List E) (e : E) : Bool := decide (0 < posE g e g.length) && !belowB (g.getD (posE g e g.length - 1) (0, 0, 0)) e
def makeF (n : Int) : List E → List E → Bool → Int × List E
  | [], g, tw => if tw then (7, []) else (0, g)
  | e :: l, g, tw => if aloneK n e.1 e.2.1 e.2.2 = 0 then makeF n l (insE g (swapE e)) (tw || twE g (swapE e)) else (aloneK n e.1 e.2.1 e.2.2, [])
def makeR (n : Int) (l : List E) : Int × List E := if sizesK n l.length = 0 then makeF n l [] false else (sizesK n l.length, [])
theorem posE_le (g : List E) (e : E) : ∀ k, posE g e k ≤ k
  | 0 => Nat.le_refl _
  | k + 1 => by
    rw [posE]
    have := posE_le g e k
    split <;> omega
end Fil
namespace Go.Proofs.YtllkoinbfegonaaDoor
open Go Go.RowKit Go.Sl Fil
set_option maxRecDepth 100000
set_option maxHeartbeats 8000000
set_option linter.unusedVariables false
set_option linter.unusedSimpArgs false
attribute [local irreducible] Code.wp wpList bodyPost wpQuiet Exit.then Exit.inBlock Post wpAnyH wpOp
theorem eV_one (e : E) : ∀ u ∈ eV e, u.oneCell' = true := by
  intro u hu
  simp only [eV, List.mem_cons, List.not_mem_nil, or_false] at hu
  rcases hu with rfl | rfl | rfl <;> rfl
theorem esV_one (l : List E) : ∀ u ∈ esV l, u.oneCell' = true := by
  intro u hu
  obtain ⟨e, _, he⟩ := List.mem_flatMap.1 hu
  exact eV_one e u he
theorem esV_append (a b : List E) : esV (a ++ b) = esV a ++ esV b := by simp [esV]
end Go.Proofs.YtllkoinbfegonaaDoor
end
section
set_option linter.unusedVariables false
namespace Go.Proofs.YtllkoinbfegonaaDoor
open Go Go.RowKit Go.Sl Fil
set_option maxRecDepth 100000
set_option maxHeartbeats 8000000
set_option linter.unusedVariables false
set_option linter.unusedSimpArgs false
attribute [local irreducible] Code.wp wpList bodyPost wpQuiet Exit.then Exit.inBlock Post wpAnyH wpOp
/-- what Make answers -/
structure MakeP (n : Int) (l : List E) (k : Int) (m : List E) : Prop where
  size : sizesK n l.length ≠ 0 → k = sizesK n l.length ∧ m = []
  alone : sizesK n l.length = 0 → ∀ (i : Nat) e, l[i]? = some e → aloneK n e.1 e.2.1 e.2.2 ≠ 0 → (∀ f ∈ l.take i, aloneK n f.1 f.2.1 f.2.2 = 0) → k = aloneK n e.1 e.2.1 e.2.2 ∧ m = []
  good : sizesK n l.length = 0 → (∀ e ∈ l, aloneK n e.1 e.2.1 e.2.2 = 0) → ∃ l' : List E, l'.Perm (l.map swapE) ∧ l'.Pairwise (fun a b => ¬ orderK b a < 0) ∧ ((k = 7 ∧ m = [] ∧ ∃ (i : Nat) (a b : E), l'[i]? = some a ∧ l'[i + 1]? = some b ∧ orderK a b = 0) ∨ (k = 0 ∧ m = l' ∧ ∀ (i : Nat) (a b : E), l'[i]? = some a → l'[i + 1]? = some b → orderK a b ≠ 0))
theorem CloneE_ok (v : Value) (l : List E) (w : World) (hs : Shp v l.length) (hr : RO w No v (esV l)) (hl : l.length ≤ 4194304) :
    Calls Tryd.prog 59 #[v] w (Post w No fun r L' => L' = [rowHP r 60 3 l.length (esV l)]) := by
  refine enter0 (vs := [_]) Tryd.func59 rfl Tryd.ntmps59 rfl ?_
  repeat' first
    | refine k_then ?_ | refine c_seq ?_ | refine c_region ?_ | refine s_nil ?_ | refine s_move (by exact rfl) (by exact rfl) ?_ | refine s_assign (by exact rfl) (by exact rfl) ?_ | fail
  refine s_eqnil (by exact rfl) (by exact rfl) hs ?_
  have hnn : (v = .slice none 0 0 ∧ l.length = 0) ∨ ∃ a0 m0 c0, v = .slice (some a0) m0 c0 := by
    rcases hs.2 with h | ⟨g, off, cap, h1, _⟩ | ⟨⟨a0, h1⟩, _⟩
    · exact .inl h
    · exact .inr ⟨_, _, _, h1⟩
    · exact .inr ⟨_, _, _, h1⟩
  rcases hnn with ⟨h1, h2⟩ | ⟨a0, m0, c0, h1⟩
  · rw [show nilB v = true by rw [h1]; rfl]
    obtain rfl : l = [] := List.eq_nil_of_length_eq_zero h2
    repeat' first
      | refine k_then ?_ | refine c_seq ?_ | refine c_region ?_ | refine s_nil ?_ | refine s_assign (by exact rfl) (by exact rfl) ?_ | refine c_ret ?_ | refine k_then_ret ?_ | refine c_cond_t (by exact rfl) ?_ | fail
    refine c_nil 60 3 ?_
    refine ret1 [0] rfl rfl rfl rfl
  · rw [show nilB v = false by rw [h1]; rfl]
    repeat' first
      | refine k_then ?_ | refine c_seq ?_ | refine c_region ?_ | refine s_nil ?_ | refine c_skip ?_ | refine c_cond_f (by exact rfl) ?_ | fail
    refine o_mk0 (by exact rfl) fun v0 hv0 => ?_
    repeat' first
      | refine s_move (by exact rfl) (by exact rfl) ?_ | fail
    refine o_append_ro (bytes := 24) (i := 0) (by exact rfl) (by exact rfl) (by exact rfl) (by exact rfl) hr hs (by rw [esV_length]) (esV_one _) (by omega) fun v1 hv1 => ?_
    repeat' first
      | refine k_then ?_ | refine s_nil ?_ | refine s_assign (by exact rfl) (by exact rfl) ?_ | refine c_ret ?_ | fail
    refine ret1 [0] rfl rfl rfl ?_
    rw [Nat.zero_add]; rfl
theorem esV_set2 {l : List E} {i : Nat} {e : E} (h : l[i]? = some e) (a b : Int) : ((esV l).set (i * 3 + 0) (.int .i64 a)).set (i * 3 + 1) (.int .i64 b) = esV (l.set i (a, b, e.2.2)) := by
  induction l generalizing i with
  | nil => simp at h
  | cons x l ih =>
    cases i with
    | zero =>
      obtain rfl : x = e := by simpa using h
      rfl
    | succ i =>
      have := ih (i := i) (by simpa using h)
      rw [show (i + 1) * 3 + 0 = (i * 3 + 0) + 3 by omega, show (i + 1) * 3 + 1 = (i * 3 + 1) + 3 by omega]
      show eV x ++ (((esV l).set (i * 3 + 0) (.int .i64 a)).set (i * 3 + 1) (.int .i64 b)) = eV x ++ esV (l.set i (a, b, e.2.2))
      rw [this]
theorem Make_ok (n : Int) (vl : Value) (l : List E) (w : World) (hs : Shp vl l.length) (hr : RO w No vl (esV l)) (hm : l.length < 4611686018427387904) :
    Calls Tryd.prog 49 #[.int .i64 n, vl] w (Post w No fun r L' => ∃ (vo : Value) (k : Int) (m : List E), r = .tuple #[.agg #[.int .i64 (if k = 0 then n else 0), vo], .int .i64 k] ∧ L' = [rowHP vo 60 3 m.length (esV m)] ∧ MakeP n l k m) := by
  refine enter0 (vs := [_, _]) Tryd.func49 rfl Tryd.ntmps49 rfl ?_
  repeat' first
    | refine k_then ?_ | refine c_seq ?_ | refine c_region ?_ | refine s_nil ?_ | refine s_move (by exact rfl) (by exact rfl) ?_ | refine s_assign (by exact rfl) (by exact rfl) ?_ | refine s_len (by exact rfl) (by exact rfl) (by assumption) ?_ | refine o_alloc (by exact rfl) (fun b => ?_) | fail
  revert b; intro b4
  refine s_call (by exact rfl) (by exact rfl) (fun w hs => sizes_ok _ _ w) ?_
  by_cases h0 : sizesK n l.length = 0
  case neg =>
    repeat' first
      | refine k_then ?_ | refine c_seq ?_ | refine c_region ?_ | refine s_nil ?_ | refine s_move (by exact rfl) (by exact rfl) ?_ | refine s_assign (by exact rfl) (by exact rfl) ?_ | refine s_neq (by exact rfl) (by exact rfl) (by exact rfl) ?_ | (refine c_cond_p (by exact rfl) (fun h => ?_) (fun h => ?_) <;> try (exfalso; omega)) | fail
    refine o_build (cs := [.int .i64 0, .slice none 0 0]) [] (by exact rfl) (by exact rfl) (by simp [Value.cells]) (by exact rfl) ?_
    repeat' first
      | refine s_move (by exact rfl) (by exact rfl) ?_ | fail
    refine o_stk_box (i := 0) (us := [.int .i64 0, .slice none 0 0]) (by exact rfl) (by exact rfl) (by exact rfl) (by exact rfl) (by exact rfl) (by simp [Value.oneCell']) (by simp [Value.cells]) ?_
    repeat' first
      | refine k_then ?_ | refine s_nil ?_ | refine s_assign (by exact rfl) (by exact rfl) ?_ | refine c_ret ?_ | refine k_then_ret ?_ | fail
    refine c_nil 60 3 ?_
    refine retL [.cell 4 56, .tmp 5] [.agg #[.int .i64 0, .slice none 0 0], .int .i64 (sizesK n l.length)] [0] rfl ⟨res_cellk (tb := 56) (cs := [.int .i64 0, .slice none 0 0]) (k := 2) (off := 0) (us := [.int .i64 0, .slice none 0 0]) rfl (.tail _ (.head _)) rfl (by simp [Value.cells, putL]), res_tmp rfl, trivial⟩ (by exact rfl) ⟨_, sizesK n l.length, [], by rw [if_neg h0]; rfl, rfl, fun _ => ⟨rfl, rfl⟩, fun h => absurd h h0, fun h => absurd h h0⟩
  have hll : l.length ≤ 4194304 := by
    unfold sizesK at h0
    split at h0
    · omega
    · split at h0 <;> omega
  repeat' first
    | refine k_then ?_ | refine c_seq ?_ | refine c_region ?_ | refine s_nil ?_ | refine s_move (by exact rfl) (by exact rfl) ?_ | refine s_assign (by exact rfl) (by exact rfl) ?_ | refine s_neq (by exact rfl) (by exact rfl) (by exact rfl) ?_ | refine c_skip ?_ | (refine c_cond_p (by exact rfl) (fun h => ?_) (fun h => ?_) <;> try (exfalso; omega)) | fail
  refine o_call (by exact rfl) (by exact rfl) (fun w h => CloneE_ok vl l w hs (ro_old h hr) hll) ?_
  rintro vo _ rfl
  refine know_row (v := vo) (.head _) fun hvo _ => ?_
  repeat' first
    | refine k_then ?_ | refine c_seq ?_ | refine c_region ?_ | refine s_nil ?_ | refine s_move (by exact rfl) (by exact rfl) ?_ | refine s_assign (by exact rfl) (by exact rfl) ?_ | refine s_len (by exact rfl) (by exact rfl) (by assumption) ?_ | refine c_block ?_ | fail
  refine c_loop (fun k : Nat => k ≤ l.length ∧ ∀ f ∈ l.take k, aloneK n f.1 f.2.1 f.2.2 = 0) (fun k => [(0, .int .i64 n), (4, .pointer (some ⟨b4, 0, none⟩)), (5, .int .i64 0), (7, vo), (22, vo), (23, .int .i64 (l.length : Int)), (24, .int .i64 (k : Int))])
    (fun k => [rowHP vo 60 3 l.length (esV ((l.take k).map swapE ++ l.drop k)), boxHP b4 56 [.int .i64 0, .slice none 0 0]]) (fun k => l.length - k) 0 [0, 0] ⟨Nat.zero_le _, by simp⟩ (by exact rfl) ⟨rfl, rfl, rfl, rfl, rfl, rfl, rfl, trivial⟩ ?_
  rintro k ⟨hk, hal⟩
  by_cases hlt : k < l.length
  · obtain ⟨e, he⟩ : ∃ e, l[k]? = some e := ⟨_, List.getElem?_eq_getElem hlt⟩
    have hdk : l.drop k = e :: l.drop (k + 1) := by
      have h3 : l[k] = e := (List.getElem?_eq_some_iff.1 he).2
      rw [List.drop_eq_getElem_cons hlt, h3]
    have htk : l.take (k + 1) = l.take k ++ [e] := by rw [List.take_add_one, he]; rfl
    have hat : ((l.take k).map swapE ++ l.drop k)[k]? = some e := by
      rw [List.getElem?_append_right (by simp; omega), hdk]
      simp [show k - min k l.length = 0 by omega]
    have hE := esV_at hat
    repeat' first
      | refine k_then ?_ | refine c_seq ?_ | refine c_region ?_ | refine s_nil ?_ | refine s_move (by exact rfl) (by exact rfl) ?_ | refine s_assign (by exact rfl) (by exact rfl) ?_ | refine s_lss (by exact rfl) (by exact rfl) (by exact rfl) ?_ | refine s_idx (by exact rfl) (by exact rfl) (by exact rfl) (by assumption) (by first | assumption | omega) ?_ | refine s_ldk_row (by exact rfl) (by exact rfl) (by exact .head _) (by decide) (by assumption) (by exact rfl) ?_ | refine o_alloc (by exact rfl) (fun b => ?_) | refine c_block ?_ | refine c_skip ?_ | (refine c_cond_p (by exact rfl) (fun h => ?_) (fun h => ?_) <;> try (exfalso; omega)) | fail
    refine o_stk_box (i := 0) (us := eV e) (by exact rfl) (by exact rfl) (by exact rfl) (by exact rfl) (by exact rfl) (by simp [eV, Value.oneCell']) (by simp [Value.cells]) ?_
    repeat' first
      | refine k_then ?_ | refine c_seq ?_ | refine c_region ?_ | refine s_nil ?_ | refine s_move (by exact rfl) (by exact rfl) ?_ | refine s_ldk_box (by exact rfl) (by exact rfl) (by exact .head _) (by exact rfl) (by exact rfl) ?_ | fail
    refine s_call (by exact rfl) (by exact rfl) (fun w hs => alone_ok n e w) ?_
    by_cases ha : aloneK n e.1 e.2.1 e.2.2 = 0
    case neg =>
      repeat' first
        | refine k_then ?_ | refine c_seq ?_ | refine c_region ?_ | refine s_nil ?_ | refine s_move (by exact rfl) (by exact rfl) ?_ | refine s_assign (by exact rfl) (by exact rfl) ?_ | refine s_neq (by exact rfl) (by exact rfl) (by exact rfl) ?_ | (refine c_cond_p (by exact rfl) (fun h => ?_) (fun h => ?_) <;> try (exfalso; omega)) | fail
      refine o_build (cs := [.int .i64 0, .slice none 0 0]) [] (by exact rfl) (by exact rfl) (by simp [Value.cells]) (by exact rfl) ?_
      repeat' first
        | refine s_move (by exact rfl) (by exact rfl) ?_ | fail
      refine o_stk_box (i := 2) (us := [.int .i64 0, .slice none 0 0]) (by exact rfl) (by exact rfl) (by exact rfl) (by exact rfl) (by exact rfl) (by simp [Value.oneCell']) (by simp [Value.cells]) ?_
      repeat' first
        | refine k_then ?_ | refine s_nil ?_ | refine s_assign (by exact rfl) (by exact rfl) ?_ | refine c_ret ?_ | refine k_then_ret ?_ | refine k_blk_ret ?_ | fail
      refine c_nil 60 3 ?_
      refine retL [.cell 4 56, .tmp 5] [.agg #[.int .i64 0, .slice none 0 0], .int .i64 (aloneK n e.1 e.2.1 e.2.2)] [0] rfl ⟨res_cellk (tb := 56) (cs := [.int .i64 0, .slice none 0 0]) (k := 2) (off := 0) (us := [.int .i64 0, .slice none 0 0]) rfl (.tail _ (.tail _ (.tail _ (.head _)))) rfl (by simp [putL]), res_tmp rfl, trivial⟩ (by exact rfl) ⟨_, aloneK n e.1 e.2.1 e.2.2, [], by rw [if_neg ha]; rfl, rfl, fun h => absurd h0 h, fun _ i f hf1 hf2 hf3 => ?_, fun _ h => absurd (h e (List.mem_of_getElem? he)) ha⟩
      have : i = k := by
        rcases Nat.lt_trichotomy i k with h | h | h
        · exact absurd (hal f (List.mem_take_iff_getElem.2 ⟨i, by have := (List.getElem?_eq_some_iff.1 hf1).1; omega, (List.getElem?_eq_some_iff.1 hf1).2⟩)) hf2
        · exact h
        · exact absurd (hf3 e (List.mem_take_iff_getElem.2 ⟨k, by omega, (List.getElem?_eq_some_iff.1 he).2⟩)) ha
      subst this
      rw [he] at hf1
      obtain rfl := Option.some.inj hf1
      exact ⟨rfl, rfl⟩
    rw [ha]
    have hsw : swapE e = (min e.1 e.2.1, max e.1 e.2.1, e.2.2) := by
      unfold swapE
      split
      · rw [Int.min_eq_right (by omega), Int.max_eq_left (by omega)]
      · rw [Int.min_eq_left (by omega), Int.max_eq_right (by omega)]
    have hset := esV_set2 hat (min e.1 e.2.1) (max e.1 e.2.1)
    have hnx : ((l.take k).map swapE ++ l.drop k).set k (min e.1 e.2.1, max e.1 e.2.1, e.2.2) = (l.take (k + 1)).map swapE ++ l.drop (k + 1) := by
      rw [← hsw, htk, hdk, List.set_append_right _ _ (by simp; omega)]
      simp [show k - min k l.length = 0 by omega]
    repeat' first
      | refine k_then ?_ | refine c_seq ?_ | refine c_region ?_ | refine s_nil ?_ | refine s_move (by exact rfl) (by exact rfl) ?_ | refine s_assign (by exact rfl) (by exact rfl) ?_ | refine s_neq (by exact rfl) (by exact rfl) (by exact rfl) ?_ | refine c_skip ?_ | (refine c_cond_p (by exact rfl) (fun h => ?_) (fun h => ?_) <;> try (exfalso; omega)) | fail
    refine c_pick [1, 0, 0] (by exact rfl) ?_
    refine p_begin [(0, true), (1, true), (2, true), (3, true), (4, true), (5, true), (6, true), (7, true), (8, true), (9, true), (10, true), (11, true), (12, true), (13, true), (14, true), (15, true), (16, false), (17, true), (18, true), (19, false)] [boxHP b 60 (eV e), boxHP b4 56 [.int .i64 0, .slice none 0 0]] (by kernel_rfl) ?_
    repeat' first
      | (refine p_at (by exact rfl) ?_
         first
          | refine t_move (by exact rfl) (by exact rfl) (by exact fun _ h => h.tl) ?_ | refine t_fa (by exact rfl) (by exact rfl) (by exact fun _ h => h.tl) ?_ | refine t_ld_box (by exact rfl) (by exact rfl) (by exact .head _) (by exact rfl) (by exact fun _ h => h.tl) ?_ | refine t_min (by exact rfl) (by exact rfl) (by exact rfl) (by exact fun _ h => h.tl) ?_ | refine t_max (by exact rfl) (by exact rfl) (by exact rfl) (by exact fun _ h => h.tl) ?_ | refine t_idx (by exact rfl) (by exact rfl) (by exact rfl) (by assumption) (by first | assumption | omega) (by exact fun _ h => h.tl) ?_ | refine t_fap (by exact rfl) (by exact rfl) (by assumption) (by omega) (by exact fun _ h => h.tl) ?_ | fail)
      | fail
    refine p_st_row (j := 0) (by exact rfl) (by exact rfl) (by exact rfl) (by exact rfl) rfl (by omega) (fun _ h => h.tl) ?_
    repeat' first
      | (refine p_at (by exact rfl) ?_
         first
          | refine t_idx (by exact rfl) (by exact rfl) (by exact rfl) (by assumption) (by first | assumption | omega) (by exact fun _ h => h.tl) ?_ | refine t_fap (by exact rfl) (by exact rfl) (by assumption) (by omega) (by exact fun _ h => h.tl) ?_ | fail)
      | fail
    refine p_st_row (j := 0) (by exact rfl) (by exact rfl) (by exact rfl) (by exact rfl) rfl (by omega) (fun _ h => h.tl) ?_
    repeat' first
      | refine p_nil ?_ | fail
    repeat' first
      | refine k_then ?_ | refine c_region ?_ | refine s_nil ?_ | refine s_move (by exact rfl) (by exact rfl) ?_ | refine s_add (by exact rfl) (by exact rfl) (by exact rfl) (by omega) ?_ | refine k_blk ?_ | fail
    refine c_round (k + 1) [0, 1] (by rw [← hnx, ← hset]; exact rfl) ⟨rfl, rfl, rfl, rfl, rfl, rfl, rfl, trivial⟩ ⟨by omega, fun f hf => ?_⟩ (by omega)
    rw [htk] at hf
    rcases List.mem_append.1 hf with hf | hf
    · exact hal f hf
    · obtain rfl : f = e := by simpa using hf
      exact ha
  obtain rfl : k = l.length := by omega
  rw [List.take_length, List.drop_length, List.append_nil] at *
  have hml : (l.map swapE).length = l.length := List.length_map ..
  repeat' first
    | refine k_then ?_ | refine c_seq ?_ | refine c_region ?_ | refine s_nil ?_ | refine s_move (by exact rfl) (by exact rfl) ?_ | refine s_lss (by exact rfl) (by exact rfl) (by exact rfl) ?_ | refine c_exit ?_ | refine k_then_exit ?_ | refine k_blk_eq ?_ | (refine c_cond_p (by exact rfl) (fun h => ?_) (fun h => ?_) <;> try (exfalso; omega)) | fail
  rw [← hml]
  refine s_lend [rowHP vo 60 3 (l.map swapE).length (esV (l.map swapE))] _ (by exact rfl) (by exact rfl) (by exact rfl) (fun w S h => edgeSort_row (sats_mem h.own (.head _)) (by omega)) ?_
  rintro _ _ ⟨rfl, l', hperm, hpw, rfl⟩
  have hl' : l'.length = l.length := by rw [hperm.length_eq, hml]
  rw [hml]
  repeat' first
    | refine k_then ?_ | refine c_seq ?_ | refine c_region ?_ | refine s_nil ?_ | refine s_move (by exact rfl) (by exact rfl) ?_ | refine s_len (by exact rfl) (by exact rfl) (by assumption) ?_ | refine c_block ?_ | fail
  refine c_loop (fun k : Nat => k ≤ l.length ∧ ∀ (i : Nat) (a b : E), i + 1 < k → l'[i]? = some a → l'[i + 1]? = some b → orderK a b ≠ 0) (fun k => [(0, .int .i64 n), (4, .pointer (some ⟨b4, 0, none⟩)), (5, .int .i64 0), (7, vo), (58, .int .i64 (l.length : Int)), (59, .int .i64 (k : Int))])
    (fun k => [rowHP vo 60 3 l.length (esV l'), boxHP b4 56 [.int .i64 0, .slice none 0 0]]) (fun k => l.length - k) 0 [0, 0] ⟨Nat.zero_le _, fun i a b h => by omega⟩ (by exact rfl) ⟨rfl, rfl, rfl, rfl, rfl, rfl, trivial⟩ ?_
  rintro k ⟨hk2, hq⟩
  by_cases hlt2 : k < l.length
  · obtain ⟨e, he⟩ : ∃ e, l'[k]? = some e := ⟨_, List.getElem?_eq_getElem (by omega)⟩
    have hE := esV_at he
    by_cases hk0 : k = 0
    · subst hk0
      repeat' first
        | refine k_then ?_ | refine c_seq ?_ | refine c_region ?_ | refine s_nil ?_ | refine s_move (by exact rfl) (by exact rfl) ?_ | refine s_assign (by exact rfl) (by exact rfl) ?_ | refine s_lss (by exact rfl) (by exact rfl) (by exact rfl) ?_ | refine c_block ?_ | refine c_skip ?_ | (refine c_cond_p (by exact rfl) (fun h => ?_) (fun h => ?_) <;> try (exfalso; omega)) | fail
      refine p_begin0 [(0, true), (1, true), (2, true), (3, true), (4, true), (5, true), (6, true), (7, true), (8, true), (9, true), (10, true), (11, true), (12, false), (13, true), (14, true)] (by kernel_rfl) ?_
      repeat' first
        | refine p_nil ?_
        | (refine p_at (by exact rfl) ?_
           first
            | refine t_move (by exact rfl) (by exact rfl) (by exact fun _ h => h) ?_ | refine t_gtr (by exact rfl) (by exact rfl) (by exact rfl) (by exact fun _ h => h) ?_ | refine t_pick_f (by exact rfl) (by exact rfl) (by exact rfl) (by exact fun _ h => h) ?_ | (refine t_case (by exact rfl) (by exact rfl) (fun h => ?_) (fun h => ?_) <;> try (exfalso; omega)) | refine t_skip (by exact rfl) (by exact rfl) (by exact rfl) (by exact rfl) (by exact fun _ h => h) ?_ | refine t_skipl (by exact rfl) (by exact rfl) (by exact rfl) (by exact rfl) (by exact fun _ h => h) ?_ | fail)
        | fail
      repeat' first
        | refine k_then ?_ | refine c_region ?_ | refine s_nil ?_ | refine s_move (by exact rfl) (by exact rfl) ?_ | refine s_add (by exact rfl) (by exact rfl) (by exact rfl) (by omega) ?_ | refine c_skip ?_ | refine k_blk ?_ | refine c_cond_f (by exact rfl) ?_ | fail
      refine c_round 1 [0, 0] (by exact rfl) ⟨rfl, rfl, rfl, rfl, rfl, rfl, trivial⟩ ⟨by omega, fun i a b h => by omega⟩ (by omega)
    · obtain ⟨q, hqq⟩ : ∃ q, l'[k - 1]? = some q := ⟨_, List.getElem?_eq_getElem (by omega)⟩
      have hQ : ((esV l').drop (((k : Int) - 1).toNat * 3)).take 3 = eV q := by
        rw [show ((k : Int) - 1).toNat = k - 1 from by omega]
        exact esV_at hqq
      repeat' first
        | refine k_then ?_ | refine c_seq ?_ | refine c_region ?_ | refine s_nil ?_ | refine s_move (by exact rfl) (by exact rfl) ?_ | refine s_assign (by exact rfl) (by exact rfl) ?_ | refine s_lss (by exact rfl) (by exact rfl) (by exact rfl) ?_ | refine c_block ?_ | refine c_skip ?_ | (refine c_cond_p (by exact rfl) (fun h => ?_) (fun h => ?_) <;> try (exfalso; omega)) | fail
      refine p_begin0 [(0, true), (1, true), (2, true), (3, true), (4, true), (5, true), (6, true), (7, true), (8, true), (9, true), (10, true), (11, true), (12, false), (13, true), (14, true)] (by kernel_rfl) ?_
      repeat' first
        | (refine p_at (by exact rfl) ?_
           first
            | refine t_move (by exact rfl) (by exact rfl) (by exact fun _ h => h) ?_ | refine t_gtr (by exact rfl) (by exact rfl) (by exact rfl) (by exact fun _ h => h) ?_ | refine tw_move (by exact rfl) (by exact rfl) (by exact rfl) (by exact rfl) (by exact fun _ h => h) ?_ | refine tw_sub (by exact rfl) (by exact rfl) (by exact rfl) (by exact rfl) (by exact rfl) (by omega) (by exact fun _ h => h) ?_ | refine tw_idx (by exact rfl) (by exact rfl) (by exact rfl) (by exact rfl) (by exact rfl) (by assumption) (by first | assumption | omega) (by exact fun _ h => h) ?_ | refine tw_idxi (by exact rfl) (by exact rfl) (by exact rfl) (by exact rfl) (by exact rfl) (by assumption) (by first | assumption | omega) (by exact fun _ h => h) ?_ | refine tw_ldk_row (by exact rfl) (by exact rfl) (by exact rfl) (by exact rfl) (by exact .head _) (by decide) (by assumption) (by exact rfl) (by exact fun _ h => h) ?_ | (refine t_case (by exact rfl) (by exact rfl) (fun h => ?_) (fun h => ?_) <;> try (exfalso; omega)) | fail)
        | fail
      refine p_callw (by exact rfl) (by exact rfl) (by exact rfl) rfl (by exact rfl) (fun w h => order_ok q e w) (by exact fun _ h => h) ?_
      repeat' first
        | refine p_nil ?_
        | (refine p_at (by exact rfl) ?_
           first
            | refine t_pick_t (by exact rfl) (by exact rfl) (by exact rfl) (by exact fun _ h => h) ?_ | refine tw_eql (by exact rfl) (by exact rfl) (by exact rfl) (by exact rfl) (by exact rfl) (by exact fun _ h => h) ?_ | fail)
        | fail
      repeat' first
        | refine k_then ?_ | refine c_seq ?_ | refine c_region ?_ | refine s_nil ?_ | refine s_move (by exact rfl) (by exact rfl) ?_ | refine s_add (by exact rfl) (by exact rfl) (by exact rfl) (by omega) ?_ | refine c_skip ?_ | refine k_blk ?_ | (refine c_cond_p (by exact rfl) (fun h => ?_) (fun h => ?_) <;> try (exfalso; omega)) | fail
      · refine o_build (cs := [.int .i64 0, .slice none 0 0]) [] (by exact rfl) (by exact rfl) (by simp [Value.cells]) (by exact rfl) ?_
        skip
        refine o_stk_box (i := 1) (us := [.int .i64 0, .slice none 0 0]) (by exact rfl) (by exact rfl) (by exact rfl) (by exact rfl) (by exact rfl) (by simp [Value.oneCell']) (by simp [Value.cells]) ?_
        repeat' first
          | refine k_then ?_ | refine s_nil ?_ | refine s_assign (by exact rfl) (by exact rfl) ?_ | refine c_ret ?_ | refine k_then_ret ?_ | refine k_blk_ret ?_ | fail
        refine c_nil 60 3 ?_
        refine retL [.cell 4 56, .tmp 5] [.agg #[.int .i64 0, .slice none 0 0], .int .i64 7] [0] rfl ⟨res_cellk (tb := 56) (cs := [.int .i64 0, .slice none 0 0]) (k := 2) (off := 0) (us := [.int .i64 0, .slice none 0 0]) rfl (.tail _ (.tail _ (.head _))) rfl (by simp [putL]), res_tmp rfl, trivial⟩ (by exact rfl) ⟨_, 7, [], rfl, rfl, fun h => absurd h0 h, fun _ i f hf1 hf2 hf3 => absurd (hal f (List.mem_of_getElem? hf1)) hf2, fun _ _ => ⟨l', hperm, hpw, .inl ⟨rfl, rfl, k - 1, q, e, hqq, by rw [show k - 1 + 1 = k by omega]; exact he, h⟩⟩⟩
      · refine c_round (k + 1) [0, 0] (by exact rfl) ⟨rfl, rfl, rfl, rfl, rfl, rfl, trivial⟩ ⟨by omega, fun i a b hi ha hb => ?_⟩ (by omega)
        by_cases hik : i + 1 < k
        · exact hq i a b hik ha hb
        · obtain rfl : i = k - 1 := by omega
          rw [show k - 1 + 1 = k by omega] at hb
          rw [hqq] at ha
          rw [he] at hb
          obtain rfl := Option.some.inj ha
          obtain rfl := Option.some.inj hb
          exact h
  · refine know_row (v := vo) (.head _) fun hvo2 _ => ?_
    repeat' first
      | refine k_then ?_ | refine c_seq ?_ | refine c_region ?_ | refine s_nil ?_ | refine s_move (by exact rfl) (by exact rfl) ?_ | refine s_lss (by exact rfl) (by exact rfl) (by exact rfl) ?_ | refine c_exit ?_ | refine k_then_exit ?_ | refine k_blk_eq ?_ | (refine c_cond_p (by exact rfl) (fun h => ?_) (fun h => ?_) <;> try (exfalso; omega)) | fail
    refine o_build (cs := [.int .i64 n, vo]) [(0, .int .i64 n, [.int .i64 n]), (1, vo, [vo])] (by exact rfl) (by exact rfl) (by
      intro x hx
      simp only [List.mem_cons, List.not_mem_nil, or_false] at hx
      rcases hx with rfl | rfl
      · rfl
      · exact one_cells hvo.one) (by exact rfl) ?_
    skip
    refine o_stk_box (i := 1) (us := [.int .i64 n, vo]) (by exact rfl) (by exact rfl) (by exact rfl) (by exact rfl) (by exact rfl) (by
      intro u hu
      simp only [List.mem_cons, List.not_mem_nil, or_false] at hu
      rcases hu with rfl | rfl
      · rfl
      · exact hvo.one) (by simp [Value.cells]) ?_
    repeat' first
      | refine k_then ?_ | refine s_nil ?_ | refine s_assign (by exact rfl) (by exact rfl) ?_ | refine c_ret ?_ | fail
    refine retL [.cell 4 56, .tmp 5] [.agg #[.int .i64 n, vo], .int .i64 0] [0] rfl ⟨res_cellk (tb := 56) (cs := [.int .i64 n, vo]) (k := 2) (off := 0) (us := [.int .i64 n, vo]) rfl (.tail _ (.head _)) rfl rfl, res_tmp rfl, trivial⟩ (by exact rfl) ⟨vo, 0, l', rfl, by rw [hl'], fun h => absurd h0 h, fun _ i f hf1 hf2 hf3 => absurd (hal f (List.mem_of_getElem? hf1)) hf2, fun _ _ => ⟨l', hperm, hpw, .inr ⟨rfl, rfl, fun i a b ha hb => hq i a b (by have := (List.getElem?_eq_some_iff.1 hb).1; omega) ha hb⟩⟩⟩
end Go.Proofs.YtllkoinbfegonaaDoor
end
section
set_option linter.unusedVariables false
namespace Fil
def endsNe (a b : E) : Prop := ¬ (a.1 = b.1 ∧ a.2.1 = b.2.1)
theorem ltE_ne {a b : E} (h : ltE a b) : endsNe a b := by unfold ltE at h; unfold endsNe; omega
theorem endsNe_symm {a b : E} (h : endsNe a b) : endsNe b a := fun h2 => h ⟨h2.1.symm, h2.2.symm⟩
theorem belowB_iff {a b : E} : belowB a b = true ↔ ltE a b := by simp [belowB, ltE]
theorem posE_spec (g : List E) (e : E) : ∀ k, k ≤ g.length → (∀ j x, posE g e k ≤ j → j < k → g[j]? = some x → ltE e x) ∧ (∀ x, 0 < posE g e k → g[posE g e k - 1]? = some x → ¬ ltE e x)
  | 0, _ => ⟨fun j x _ h => by omega, fun x h => by simp [posE] at h⟩
  | k + 1, hk => by
    obtain ⟨h1, h2⟩ := posE_spec g e k (by omega)
    have hg : g[k]? = some (g.getD k (0, 0, 0)) := by rw [List.getD_eq_getElem?_getD, List.getElem?_eq_getElem (by omega)]; rfl
    rw [posE]
    split
    · rename_i hb
      refine ⟨fun j x hj hjk hx => ?_, h2⟩
      by_cases hjk2 : j = k
      · subst hjk2
        rw [hg] at hx
        rw [← Option.some.inj hx]
        exact belowB_iff.1 hb
      · exact h1 j x hj (by omega) hx
    · rename_i hb
      refine ⟨fun j x hj hjk => by omega, fun x _ hx => ?_⟩
      rw [Nat.add_sub_cancel, hg] at hx
      rw [← Option.some.inj hx]
      exact fun h => hb (belowB_iff.2 h)
theorem insE_perm (g : List E) (e : E) : (insE g e).Perm (g ++ [e]) := by
  rw [insE, List.append_assoc]
  have h : ([e] ++ g.drop (posE g e g.length)).Perm (g.drop (posE g e g.length) ++ [e]) := List.perm_append_comm
  refine (h.append_left _).trans ?_
  rw [← List.append_assoc, List.take_append_drop]
theorem ins_sorted {g : List E} {e : E} (hg : g.Pairwise ltE) : (twE g e = false → (insE g e).Pairwise ltE ∧ ∀ f ∈ g, endsNe f e) ∧ (twE g e = true → ∃ f ∈ g, ¬ endsNe f e) := by
  have hle := posE_le g e g.length
  obtain ⟨h1, h2⟩ := posE_spec g e g.length (Nat.le_refl _)
  generalize hp : posE g e g.length = p at *
  have hlast : 0 < p → g[p - 1]? = some (g.getD (p - 1) (0, 0, 0)) := fun h => by rw [List.getD_eq_getElem?_getD, List.getElem?_eq_getElem (by omega)]; rfl
  constructor
  · intro ht
    have hlow : ∀ f ∈ g.take p, ltE f e := by
      by_cases h0 : p = 0
      · subst h0; simp
      · have hb : ltE (g.getD (p - 1) (0, 0, 0)) e := by
          rw [twE, hp] at ht
          rw [← belowB_iff]
          cases hbb : belowB (g.getD (p - 1) (0, 0, 0)) e
          · rw [hbb] at ht; simp at ht; omega
          · rfl
        intro f hf
        obtain ⟨j, hj⟩ := List.getElem?_of_mem hf
        rw [List.getElem?_take] at hj
        split at hj
        · rename_i hjp
          by_cases hjl : j = p - 1
          · subst hjl
            rw [hlast (by omega)] at hj
            rw [← Option.some.inj hj]; exact hb
          · obtain ⟨q1, q2⟩ := List.getElem?_eq_some_iff.1 hj
            obtain ⟨q3, q4⟩ := List.getElem?_eq_some_iff.1 (hlast (by omega))
            have := List.pairwise_iff_getElem.1 hg j (p - 1) q1 q3 (by omega)
            rw [q2, q4] at this
            exact ltE_trans this hb
        · simp at hj
    have hhigh : ∀ f ∈ g.drop p, ltE e f := by
      intro f hf
      obtain ⟨j, hj⟩ := List.getElem?_of_mem hf
      rw [List.getElem?_drop] at hj
      exact h1 (p + j) f (by omega) (List.getElem?_eq_some_iff.1 hj).1 hj
    refine ⟨?_, fun f hf => ?_⟩
    · rw [insE, hp, List.append_assoc, List.pairwise_append]
      refine ⟨hg.sublist (List.take_sublist _ _), ?_, fun a ha b hb => ?_⟩
      · rw [List.singleton_append, List.pairwise_cons]
        exact ⟨hhigh, hg.sublist (List.drop_sublist _ _)⟩
      · rcases List.mem_append.1 hb with hb | hb
        · obtain rfl : b = e := by simpa using hb
          exact hlow a ha
        · exact ltE_trans (hlow a ha) (hhigh b hb)
    · rw [← List.take_append_drop p g] at hf
      rcases List.mem_append.1 hf with hf | hf
      · exact ltE_ne (hlow f hf)
      · exact endsNe_symm (ltE_ne (hhigh f hf))
  · intro ht
    rw [twE, hp, Bool.and_eq_true, decide_eq_true_eq, Bool.not_eq_true'] at ht
    obtain ⟨t1, t2⟩ := ht
    refine ⟨_, List.mem_of_getElem? (hlast t1), fun hne => ?_⟩
    have a1 := h2 _ t1 (hlast t1)
    have a2 : ¬ ltE (g.getD (p - 1) (0, 0, 0)) e := fun h => by rw [belowB_iff.2 h] at t2; cases t2
    unfold ltE at a1 a2
    unfold endsNe at hne
    omega
theorem makeF_tw {n : Int} : ∀ (l g : List E), (∀ e ∈ l, aloneK n e.1 e.2.1 e.2.2 = 0) → makeF n l g true = (7, [])
  | [], g, _ => rfl
  | e :: l, g, h => by
    rw [makeF, if_pos (h e (.head _)), Bool.true_or]
    exact makeF_tw l _ fun f hf => h f (.tail _ hf)
theorem makeF_all {n : Int} : ∀ (l g : List E), (∀ e ∈ l, aloneK n e.1 e.2.1 e.2.2 = 0) → g.Pairwise ltE →
    ((g ++ l.map swapE).Pairwise endsNe → ∃ m, makeF n l g false = (0, m) ∧ m.Pairwise ltE ∧ m.Perm (g ++ l.map swapE)) ∧ (¬ (g ++ l.map swapE).Pairwise endsNe → makeF n l g false = (7, []))
  | [], g, _, hg => ⟨fun _ => ⟨g, rfl, hg, by simp⟩, fun h => absurd (by simpa using hg.imp ltE_ne) h⟩
  | e :: l, g, h, hg => by
    obtain ⟨s1, s2⟩ := ins_sorted (e := swapE e) hg
    have hal := h e (.head _)
    have htl : ∀ f ∈ l, aloneK n f.1 f.2.1 f.2.2 = 0 := fun f hf => h f (.tail _ hf)
    have hperm : (insE g (swapE e) ++ l.map swapE).Perm (g ++ (e :: l).map swapE) := by
      rw [List.map_cons, show g ++ swapE e :: l.map swapE = (g ++ [swapE e]) ++ l.map swapE by simp]
      exact (insE_perm g (swapE e)).append_right _
    rw [makeF, if_pos hal, Bool.false_or]
    cases ht : twE g (swapE e)
    · obtain ⟨i1, i2⟩ := makeF_all l (insE g (swapE e)) htl (s1 ht).1
      refine ⟨fun hp => ?_, fun hp => i2 fun h2 => hp ?_⟩
      · obtain ⟨m, m1, m2, m3⟩ := i1 ((List.Perm.pairwise_iff (fun h => endsNe_symm h) hperm).2 hp)
        exact ⟨m, m1, m2, m3.trans hperm⟩
      · exact (List.Perm.pairwise_iff (fun h => endsNe_symm h) hperm).1 h2
    · refine ⟨fun hp => ?_, fun _ => makeF_tw l _ htl⟩
      exfalso
      obtain ⟨f, hf, hne⟩ := s2 ht
      rw [List.map_cons] at hp
      exact hne ((List.pairwise_append.1 hp).2.2 f hf (swapE e) (.head _))
theorem makeF_first {n : Int} : ∀ (l g : List E) (tw : Bool) (i : Nat) (e : E), l[i]? = some e → aloneK n e.1 e.2.1 e.2.2 ≠ 0 → (∀ f ∈ l.take i, aloneK n f.1 f.2.1 f.2.2 = 0) → makeF n l g tw = (aloneK n e.1 e.2.1 e.2.2, [])
  | [], g, tw, i, e, h, _, _ => by simp at h
  | a :: l, g, tw, 0, e, h, h2, _ => by
    obtain rfl : a = e := by simpa using h
    rw [makeF, if_neg h2]
  | a :: l, g, tw, i + 1, e, h, h2, h3 => by
    rw [makeF, if_pos (h3 a (by simp))]
    exact makeF_first l _ _ i e (by simpa using h) h2 fun f hf => h3 f (by simp [hf])
theorem ltE_asymm {a b : E} (h : ltE a b) : ¬ ltE b a := by unfold ltE at *; omega
theorem sorted_one : ∀ {a b : List E}, a.Pairwise ltE → b.Pairwise ltE → a.Perm b → a = b
  | [], b, _, _, h => (List.Perm.nil_eq h)
  | x :: a, [], _, _, h => by have := h.length_eq; simp at this
  | x :: a, y :: b, ha, hb, h => by
    rw [List.pairwise_cons] at ha hb
    have hxy : x = y := by
      rcases List.mem_cons.1 (h.mem_iff.1 (.head _)) with h1 | h1
      · exact h1
      · rcases List.mem_cons.1 (h.mem_iff.2 (.head b)) with h2 | h2
        · exact h2.symm
        · exact absurd (ha.1 y h2) (ltE_asymm (hb.1 x h1))
    subst hxy
    rw [sorted_one ha.2 hb.2 (h.cons_inv)]
theorem first_bad {α : Type} {P : α → Prop} : ∀ {l : List α}, (∀ x ∈ l, P x) ∨ ∃ (i : Nat) (e : α), l[i]? = some e ∧ ¬ P e ∧ ∀ f ∈ l.take i, P f
  | [] => .inl (by simp)
  | a :: l => by
    by_cases ha : P a
    · rcases first_bad (P := P) (l := l) with h | ⟨i, e, h1, h2, h3⟩
      · exact .inl fun x hx => (List.mem_cons.1 hx).elim (fun h2 => h2 ▸ ha) (h x)
      · exact .inr ⟨i + 1, e, by simpa using h1, h2, fun f hf => by
          rw [List.take_succ_cons] at hf
          exact (List.mem_cons.1 hf).elim (fun h2 => h2 ▸ ha) (h3 f)⟩
    · exact .inr ⟨0, a, rfl, ha, by simp⟩
theorem adj_strict {l : List E} (h : l.Pairwise fun a b => ¬ orderK b a < 0) (hq : ∀ (i : Nat) (a b : E), l[i]? = some a → l[i + 1]? = some b → orderK a b ≠ 0) : l.Pairwise ltE := by
  have hadj : ∀ (i : Nat) (a b : E), l[i]? = some a → l[i + 1]? = some b → ltE a b := fun i a b ha hb => by
    obtain ⟨i1, rfl⟩ := List.getElem?_eq_some_iff.1 ha
    obtain ⟨i2, rfl⟩ := List.getElem?_eq_some_iff.1 hb
    have h1 := List.pairwise_iff_getElem.1 h i (i + 1) i1 i2 (by omega)
    have h2 := hq i _ _ ha hb
    revert h1 h2
    generalize l[i] = a
    generalize l[i + 1] = b
    intro h1 h2
    unfold orderK cmpK at h1 h2
    unfold ltE
    split at h1 <;> split at h2 <;> (repeat' split at h1) <;> (repeat' split at h2) <;> omega
  rw [List.pairwise_iff_getElem]
  intro i j hi hj hij
  induction j with
  | zero => omega
  | succ j ih =>
    have h1 := hadj j l[j] l[j + 1] (List.getElem?_eq_getElem (by omega)) (List.getElem?_eq_getElem hj)
    by_cases h2 : i = j
    · subst h2; exact h1
    · exact ltE_trans (ih (by omega) (by omega)) h1
theorem order_ends {a b : E} (h : orderK a b = 0) : ¬ endsNe a b := by
  unfold orderK cmpK at h
  unfold endsNe
  split at h <;> (repeat' split at h) <;> omega
end Fil
namespace Go.Proofs.YtllkoinbfegonaaDoor
open Fil
theorem MakeP.eq {n : Int} {l : List E} {k : Int} {m : List E} (h : MakeP n l k m) : makeR n l = (k, m) := by
  rw [makeR]
  by_cases h0 : sizesK n l.length = 0
  · rw [if_pos h0]
    rcases first_bad (P := fun e : E => aloneK n e.1 e.2.1 e.2.2 = 0) (l := l) with hal | ⟨i, e, h1, h2, h3⟩
    · obtain ⟨f1, f2⟩ := makeF_all l [] hal .nil
      rw [List.nil_append] at f1 f2
      obtain ⟨l', p1, p2, p3⟩ := h.good h0 hal
      by_cases hp : (l.map swapE).Pairwise endsNe
      · obtain ⟨m', m1, m2, m3⟩ := f1 hp
        have hp' : l'.Pairwise endsNe := (List.Perm.pairwise_iff (fun h => endsNe_symm h) p1).2 hp
        rcases p3 with ⟨_, _, i, a, b, ha, hb, hab⟩ | ⟨rfl, rfl, hq⟩
        · exfalso
          obtain ⟨i1, rfl⟩ := List.getElem?_eq_some_iff.1 ha
          obtain ⟨i2, rfl⟩ := List.getElem?_eq_some_iff.1 hb
          exact order_ends hab (List.pairwise_iff_getElem.1 hp' i (i + 1) i1 i2 (by omega))
        · rw [m1, sorted_one m2 (adj_strict p2 hq) (m3.trans p1.symm)]
      · rcases p3 with ⟨rfl, rfl, _⟩ | ⟨rfl, rfl, hq⟩
        · exact f2 hp
        · exfalso
          exact hp ((List.Perm.pairwise_iff (fun h => endsNe_symm h) p1).1 ((adj_strict p2 hq).imp ltE_ne))
    · obtain ⟨rfl, rfl⟩ := h.alone h0 i e h1 h2 h3
      exact makeF_first l [] false i e h1 h2 h3
  · rw [if_neg h0]
    obtain ⟨rfl, rfl⟩ := h.size h0
    rfl
end Go.Proofs.YtllkoinbfegonaaDoor
end
section
set_option linter.unusedVariables false
namespace Go.Sl
open Go Go.RowKit
section
variable {P : Program} {w0 : World} {S0 : FS} {n : Nat} {F : List (Nat × Value)} {L : List HP} {o : Oper} {v : Value} {x : Operand} {t t' : TypeId} [HasD n]
/-- a string out of bytes that are read -/
theorem q_bstr {e : TypeId} {l : List UInt8} (hu : P.underlying t = some (.slice e)) (he : P.underlying e = some (.int .u8)) (hd : P.underlying t' = some .string) (ho : o.op = .convert t t' x) (hx : ev F x = some v) (hs : Shp v l.length) (hrd : ∀ w, St w0 S0 L w → RdV w v (byV l)) : R1 P w0 S0 n F L o (.string ⟨l.toArray⟩) :=
  q_of_run fun a hf w hst => by
    have rd := hrd w hst
    have key : ∀ (ad : Addr) (cap : Nat), v = .slice (some ad) l.length cap → ad.spot = none ∨ l = [] → (convert t t' v).run P w = .ok (.string ⟨l.toArray⟩) w := by
      intro ad cap e1 hsp
      subst e1
      refine run_convert_bytes_back w t t' e ad cap l hu he hd fun j hj => ?_
      rcases hsp with hsp | rfl
      · obtain ⟨g, off, m, c, e2, hc⟩ := rd j (.int .u8 (l[j].toNat : Int)) (byV_get (List.getElem?_eq_getElem hj))
        simp only [Value.slice.injEq, Option.some.injEq] at e2
        obtain ⟨rfl, _, _⟩ := e2
        by_cases h0 : j = 0
        · subst h0; simpa [Addr.add] using hc
        · simpa [Addr.add, h0] using hc
      · simp at hj
    have hr : (convert t t' v).run P w = .ok (.string ⟨l.toArray⟩) w := by
      rcases hs.2 with ⟨rfl, h0⟩ | ⟨g, off, cap, rfl, _⟩ | ⟨⟨a0, rfl⟩, h0⟩
      · have : l = [] := List.eq_nil_of_length_eq_zero h0
        subst this
        rw [run_convert_bytes_string w t t' e none 0 0 hu he hd]
        rfl
      · exact key _ _ rfl (.inl rfl)
      · have : l = [] := List.eq_nil_of_length_eq_zero h0
        subst this
        exact key a0 0 rfl (.inr rfl)
    simp only [execOp, ho, hf.eval hx, Sem.run_bind, hr, Result.andThen_ok, Sem.run_pure]
end
end Go.Sl
namespace Go.Proofs.YtllkoinbfegonaaDoor
open Go Go.RowKit Go.Sl Go.Num Fil
abbrev prsV (b2 b3 : Nat) : List Deferred := [{ target := .fn (.func 45) (List.toArray [.pointer (some ⟨b2, 0, none⟩), .pointer (some ⟨b3, 0, none⟩)]), args := List.toArray [] }]
theorem prs_invoke (b2 b3 : Nat) (w : World) : (invoke (.fn (.func 45) (List.toArray [.pointer (some ⟨b2, 0, none⟩), .pointer (some ⟨b3, 0, none⟩)])) (List.toArray [])).run Tryd.prog w = .ok (.enter 45 #[.pointer (some ⟨b2, 0, none⟩), .pointer (some ⟨b3, 0, none⟩)]) w := by
  unfold invoke
  exact (inferInstance : FnTy Tryd.prog 45).c _ _
section
variable {w0 : World} {S0 : FS} {n : Nat} {F : List (Nat × Value)} {L Lr : List HP} {R : Ending → World → Prop} {b2 b3 : Nat}
theorem leave_ret [iD : HasD n] {c0 c1 e : Value} (hD : @HasD.D n iD = prsV b2 b3) (h2 : fget F 2 = some (.pointer (some ⟨b2, 0, none⟩))) (h3 : fget F 3 = some (.pointer (some ⟨b3, 0, none⟩))) (is : List Nat) (hL : pick L is = some (boxHP b2 56 [c0, c1] :: boxHP b3 27 [e] :: Lr))
    (hR : ∀ w', St w0 S0 Lr w' → R (.returned (.tuple #[.agg #[c0, c1], e])) w') : Sl.Reach w0 S0 n F L (bodyPostD Tryd.prog Tryd.f27 R .ret) := by
  intro a w' hf hs0
  have hs := hs0.pick is hL
  show Leaves Tryd.prog Tryd.f27 a.tmps R a.defers .returning w'
  rw [hf.df, hD]
  refine leaves_cons (by simp) (prs_invoke b2 b3 w') ?_
  refine (door_ret b2 b3 w' No).mono ?_
  rintro e1 u' w2 ⟨rfl, rfl, hm⟩
  have hs2 : St w0 S0 (boxHP b2 56 [c0, c1] :: boxHP b3 27 [e] :: Lr) w2 := hs.same hm.below hm.drawn
  show ∃ v, (results Tryd.f27 a.tmps).run Tryd.prog w2 = .ok v w2 ∧ R (.returned v) w2
  refine ⟨_, results_all (rs := [.cell 2 56, .cell 3 27]) (vs := [.agg #[c0, c1], e]) rfl ⟨res_cellk (cs := [c0, c1]) (k := 2) (off := 0) (us := [c0, c1]) h2 (.head _) rfl rfl, res_cell (cs := [e]) (off := 0) h3 (.tail _ (.head _)) rfl, trivial⟩ hf hs2, hR w2 hs2.tl.tl⟩
theorem leave_pan [iD : HasD n] {c0 c1 e0 errv : Value} (hD : @HasD.D n iD = prsV b2 b3) (h1 : errv.oneCell' = true) (h2 : fget F 2 = some (.pointer (some ⟨b2, 0, none⟩))) (h3 : fget F 3 = some (.pointer (some ⟨b3, 0, none⟩))) (is : List Nat) (hL : pick L is = some ([boxHP b2 56 [c0, c1], boxHP b3 27 [e0]] ++ Lr))
    (hR : ∀ w', St w0 S0 Lr w' → R (.returned (.tuple #[.agg #[.int .i64 0, .slice none 0 0], errv])) w') : Sl.Reach w0 S0 n F L (bodyPostD Tryd.prog Tryd.f27 R (.panic [pan (.iface 95 (.agg #[errv]))])) := by
  intro a w' hf hs0
  have hs := hs0.pick is hL
  show Leaves Tryd.prog Tryd.f27 a.tmps R a.defers (.panicking [pan (.iface 95 (.agg #[errv]))]) w'
  rw [hf.df, hD]
  refine leaves_cons (by simp) (prs_invoke b2 b3 w') ?_
  obtain ⟨S, Sr, Sf, hm0, hs0, hsr, hSf, hSr, hdis⟩ := hs.lend
  refine (door_pan b2 b3 errv c0 c1 e0 h1 w' S hs0).mono ?_
  rintro e1 u' w2 ⟨rfl, rfl, S', hm, hl⟩
  have hs2 : St w0 S0 ([boxHP b2 56 [.int .i64 0, .slice none 0 0], boxHP b3 27 [errv]] ++ Lr) w2 := by
    have hsr' : sats Lr Sr w2 := sats_move (fun k hk hlt => hm.keep k hlt (fun h => hdis k h hk)) hsr
    refine ⟨fun k => S' k ∨ Sr k, hm0.trans ⟨hm.os, hm.tape, hm.output, hm.drawn, hm.size, fun k hk hn => hm.keep k hk (fun h => hn (hSf k h)), ?_⟩, sats_append hl hsr' ?_⟩
    · rintro k (hk | hk)
      · exact (hm.new k hk).imp (hSf k) id
      · exact .inl (hSr k hk).1
    · intro k hk hk2
      rcases hm.new k hk with h | h
      · exact hdis k h hk2
      · have := (hSr k hk2).2; omega
  show ∃ v, (results Tryd.f27 a.tmps).run Tryd.prog w2 = .ok v w2 ∧ R (.returned v) w2
  refine ⟨_, results_all (rs := [.cell 2 56, .cell 3 27]) (vs := [.agg #[.int .i64 0, .slice none 0 0], errv]) rfl ⟨res_cellk (cs := [.int .i64 0, .slice none 0 0]) (k := 2) (off := 0) (us := [.int .i64 0, .slice none 0 0]) h2 (.head _) rfl rfl, res_cell (cs := [errv]) (off := 0) h3 (.tail _ (.head _)) rfl, trivial⟩ hf hs2, hR w2 hs2.tl.tl⟩
end
theorem EdgeP.none {rb : Nat} {s : List UInt8} {n i : Int} {w : World} {S : FS} (h : lineL s edgeB 3 = none) : ∀ e w', EdgeP rb s n i w S e w' → PanP w S (StopAt (i + 1) 3) e w' := fun e w' hp => by rw [EdgeP, h] at hp; exact hp
theorem EdgeP.bad {rb : Nat} {s r : List UInt8} {n i a b c : Int} {w : World} {S : FS} (h : lineL s edgeB 3 = some ([a, b, c], r)) (hk : edgeK n a b c ≠ 0) : ∀ e w', EdgeP rb s n i w S e w' → PanP w S (StopAt (i + 1) (edgeK n a b c)) e w' := fun e w' hp => by
  rw [EdgeP, h] at hp; simp only [hk, if_false] at hp; exact hp
theorem EdgeP.good {rb : Nat} {s r : List UInt8} {n i a b c : Int} {w : World} {S : FS} (h : lineL s edgeB 3 = some ([a, b, c], r)) (hk : edgeK n a b c = 0) : ∀ e w', EdgeP rb s n i w S e w' → Post w S (fun v L' => v = .agg (eV (a, b, c)).toArray ∧ L' = [boxHP rb 99 [.string ⟨r.toArray⟩, .int .i64 (i + 1)]]) e w' := fun e w' hp => by
  rw [EdgeP, h] at hp; simp only [hk, if_true] at hp; exact hp
theorem post_of {w w' : World} {L : List HP} {v : Value} {G : Value → List HP → Prop} (h : St w No L w') (hG : G v L) : Post w No G (.returned v) w' := by
  obtain ⟨S', hm, hsat⟩ := h
  exact ⟨v, L, hG, rfl, S', hm, hsat⟩
def textB : ByteArray := ⟨#[116, 101, 120, 116]⟩
/-- what a text is parsed to -/
def ParseP (s : List UInt8) (w : World) (e : Ending) (w' : World) : Prop :=
  match readL s with
  | .inl x => Post w No (fun u L' => ∃ nb, u = .tuple #[.agg #[.int .i64 0, .slice none 0 0], chV (kdV x.2) [⟨nb, lnB, x.1⟩]] ∧ L' = [boxHP nb 37 (ndC (kdV x.2) ⟨nb, lnB, x.1⟩ [])]) e w'
  | .inr y => if (makeR y.1 y.2).1 = 0
    then Post w No (fun u L' => ∃ vo, u = .tuple #[.agg #[.int .i64 y.1, vo], .nilIface] ∧ L' = [rowHP vo 60 3 (makeR y.1 y.2).2.length (esV (makeR y.1 y.2).2)]) e w'
    else Post w No (fun u L' => ∃ vo nb, u = .tuple #[.agg #[.int .i64 0, vo], chV (kdV (makeR y.1 y.2).1) [⟨nb, textB, 0⟩]] ∧ L' = [rowHP vo 60 3 (makeR y.1 y.2).2.length (esV (makeR y.1 y.2).2), boxHP nb 37 (ndC (kdV (makeR y.1 y.2).1) ⟨nb, textB, 0⟩ [])]) e w'
set_option maxRecDepth 100000
set_option maxHeartbeats 8000000
set_option linter.unusedVariables false
set_option linter.unusedSimpArgs false
attribute [local irreducible] Code.wp wpList bodyPost wpQuiet Exit.then Exit.inBlock Post wpAnyH wpOp
theorem Parse_ok (v : Value) (s : List UInt8) (w : World) (hs : Shp v s.length) (hr : RO w No v (byV s)) (hz : s.length ≤ 20000) (hM : MX w No) :
    Calls Tryd.prog 27 #[v] w (ParseP s w) := by
  have hE : ∀ {R : Ending → World → Prop} {x : (Int × Int) ⊕ (Int × List E)}, readL s = x → (∀ e w', R e w' → (match x with
  | .inl x => Post w No (fun u L' => ∃ nb, u = .tuple #[.agg #[.int .i64 0, .slice none 0 0], chV (kdV x.2) [⟨nb, lnB, x.1⟩]] ∧ L' = [boxHP nb 37 (ndC (kdV x.2) ⟨nb, lnB, x.1⟩ [])]) e w'
  | .inr y => if (makeR y.1 y.2).1 = 0
    then Post w No (fun u L' => ∃ vo, u = .tuple #[.agg #[.int .i64 y.1, vo], .nilIface] ∧ L' = [rowHP vo 60 3 (makeR y.1 y.2).2.length (esV (makeR y.1 y.2).2)]) e w'
    else Post w No (fun u L' => ∃ vo nb, u = .tuple #[.agg #[.int .i64 0, vo], chV (kdV (makeR y.1 y.2).1) [⟨nb, textB, 0⟩]] ∧ L' = [rowHP vo 60 3 (makeR y.1 y.2).2.length (esV (makeR y.1 y.2).2), boxHP nb 37 (ndC (kdV (makeR y.1 y.2).1) ⟨nb, textB, 0⟩ [])]) e w')) → ∀ e w', R e w' → ParseP s w e w' := fun hx h e w' hr => by
    rw [ParseP, hx]; exact h e w' hr
  have hbad : ∀ {i k : Int} {nb : Nat}, readL s = .inl (i, k) → ∀ w', St w No [boxHP nb 37 (ndC (kdV k) ⟨nb, lnB, i⟩ [])] w' → ParseP s w (.returned (.tuple #[.agg #[.int .i64 0, .slice none 0 0], chV (kdV k) [⟨nb, lnB, i⟩]])) w' := fun {i k nb} hx w' hst => by
    rw [ParseP, hx]
    exact post_of hst ⟨nb, rfl, rfl⟩
  haveI hpx : POx [2, 3] (bodyPostD Tryd.prog Tryd.f27 (ParseP s w)) := pox_door (tx := 56) (ty := 27) rfl
  refine enterD (S := No) (vs := [_]) Tryd.func27 rfl Tryd.ntmps27 rfl (L0 := []) trivial ?_
  repeat' first
    | refine k_then ?_ | refine c_seq ?_ | refine c_region ?_ | refine s_nil ?_ | refine s_move (by exact rfl) (by exact rfl) ?_ | refine s_gtr (by exact rfl) (by exact rfl) (by exact rfl) ?_ | refine s_len (by exact rfl) (by exact rfl) (by assumption) ?_ | refine o_alloc (by exact rfl) (fun b => ?_) | refine c_skip ?_ | (refine c_cond_p (by exact rfl) (fun h => ?_) (fun h => ?_) <;> try (exfalso; omega)) | fail
  rename_i b2
  revert b; intro b3
  refine s_q rfl rfl (by exact rfl) (q_mkf (vs := []) (us := [_, _]) rfl (by exact rfl) (by exact rfl)).q ?_
  refine s_defer (pre := []) (caps := [.pointer (some ⟨b2, 0, none⟩), .pointer (some ⟨b3, 0, none⟩)]) (by exact rfl) fun iD hD => ?_
  repeat' first
    | refine k_then ?_ | refine c_seq ?_ | refine c_region ?_ | refine s_nil ?_ | refine s_move (by exact rfl) (by exact rfl) ?_ | fail
  refine s_q rfl rfl (by exact rfl) (q_bstr (l := s) Tryd.underlying63 Tryd.underlying5 Tryd.underlying9 rfl (by exact rfl) hs (fun _ h => h.rd hr)).q ?_
  refine o_build [(0, .string ⟨s.toArray⟩, [.string ⟨s.toArray⟩])] (by exact rfl) (by exact rfl) (by simp [Value.cells]) (by exact rfl) ?_
  repeat' first
    | refine k_then ?_ | refine c_seq ?_ | refine c_region ?_ | refine s_nil ?_ | refine s_move (by exact rfl) (by exact rfl) ?_ | refine s_assign (by exact rfl) (by exact rfl) ?_ | refine o_box (by exact rfl) (by exact rfl) (fun b => ?_) | fail
  revert b; intro rb
  cases hL : lineL s graphB 2 with
  | none =>
    have hx : readL s = .inl (1, 3) := by rw [readL, hL]
    refine s_callF (vs := [_, .string ⟨graphB.toArray⟩, .int .i64 2]) [boxHP rb 99 [.string ⟨s.toArray⟩, .int .i64 0]] _ rfl (by exact rfl) (fun w S h => (line_ok rb s graphB 2 0 (by omega) (by decide) (by decide) w S (hM.lent h) h.own).mono (LineP.pan hL)) ?_
    intro v L' hv
    obtain ⟨nb, rfl, rfl⟩ := hv
    repeat first | refine k_then_pan ?_ | refine k_blk_pan ?_
    exact leave_pan hD rfl rfl rfl [2, 1, 0] rfl (hbad hx)
  | some p =>
    obtain ⟨ns, rest⟩ := p
    obtain ⟨hl2, hrl, hb2⟩ := lineL_len hL
    obtain ⟨n, m, rfl⟩ : ∃ n m, ns = [n, m] := by
      match ns, hl2 with
      | [n, m], _ => exact ⟨n, m, rfl⟩
    refine s_lend (vs := [_, .string ⟨graphB.toArray⟩, .int .i64 2]) [boxHP rb 99 [.string ⟨s.toArray⟩, .int .i64 0]] _ rfl (by exact rfl) (by exact rfl) (fun w S h => (line_ok rb s graphB 2 0 (by omega) (by decide) (by decide) w S (hM.lent h) h.own).mono (LineP.post hL)) ?_
    rintro v5 L' rfl
    refine know_row (v := v5) (.tail _ (.head _)) fun hv5 _ => ?_
    dsimp only at hv5 ⊢
    have g0 : (i6V [n, m])[0 * 1]? = some (.int .i64 n) := rfl
    have g1 : (i6V [n, m])[1 * 1]? = some (.int .i64 m) := rfl
    have hn0 := hb2 n (by simp)
    have hm0 := hb2 m (by simp)
    repeat' first
      | refine k_then ?_ | refine c_seq ?_ | refine s_nil ?_ | refine s_assign (by exact rfl) (by exact rfl) ?_ | fail
    by_cases h1 : 0 ≤ min n m
    · refine c_draw (by kernel_rfl) (by kernel_rfl) ?_
      repeat' first
        | refine d_move (by exact rfl) (by exact rfl) ?_ | refine d_fa (by exact rfl) (by exact rfl) ?_ | refine d_ld_box (by exact rfl) (by exact rfl) (by exact .head _) (by exact rfl) ?_ | refine d_geq (by exact rfl) (by exact rfl) (by exact rfl) ?_ | refine d_min (by exact rfl) (by exact rfl) (by exact rfl) ?_ | refine d_idxi (by exact rfl) (by exact rfl) (by exact rfl) (by assumption) (by first | assumption | omega) ?_ | refine d_ld_row (by exact rfl) (by exact rfl) (by exact .tail _ (.head _)) (by assumption) ?_ | refine d_q rfl rfl (by exact rfl) (q_nilck rfl (by exact rfl)).q ?_ | fail
      rw [decide_eq_true h1]
      refine d_call (vs := [.bool true, .int .i64 (0 + 1), .int .i64 1]) (by exact rfl) (by exact rfl) (fun w h => needT_ok _ _ w) ?_
      repeat' first
        | refine d_nil ?_ | fail
      repeat' first
        | refine k_then ?_ | refine c_seq ?_ | fail
      by_cases h4 : n ≤ 1048576 ∧ m ≤ 4194304
      · refine c_draw (by kernel_rfl) (by kernel_rfl) ?_
        repeat' first
          | refine d_move (by exact rfl) (by exact rfl) ?_ | refine d_fa (by exact rfl) (by exact rfl) ?_ | refine d_ld_box (by exact rfl) (by exact rfl) (by exact .head _) (by exact rfl) ?_ | refine d_leq (by exact rfl) (by exact rfl) (by exact rfl) ?_ | refine d_idxi (by exact rfl) (by exact rfl) (by exact rfl) (by assumption) (by first | assumption | omega) ?_ | refine d_pick_t (by exact rfl) (by exact rfl) (by exact rfl) ?_ | refine d_ld_row (by exact rfl) (by exact rfl) (by exact .tail _ (.head _)) (by assumption) ?_ | (refine dg_case (by exact rfl) (by exact rfl) (fun h => ?_) (fun h => ?_) <;> try (exfalso; omega)) | refine dw_move (by exact rfl) (by exact rfl) (by exact rfl) (by exact rfl) ?_ | refine dw_leq (by exact rfl) (by exact rfl) (by exact rfl) (by exact rfl) (by exact rfl) ?_ | refine dw_idxi (by exact rfl) (by exact rfl) (by exact rfl) (by exact rfl) (by exact rfl) (by assumption) (by first | assumption | omega) ?_ | refine dw_ld_row (by exact rfl) (by exact rfl) (by exact rfl) (by exact rfl) (by exact .tail _ (.head _)) (by assumption) ?_ | refine d_q rfl rfl (by exact rfl) (q_nilck rfl (by exact rfl)).q ?_ | fail
        rw [decide_eq_true h4.2]
        refine d_call (vs := [.bool true, .int .i64 (0 + 1), .int .i64 4]) (by exact rfl) (by exact rfl) (fun w h => needT_ok _ _ w) ?_
        repeat' first
          | refine d_nil ?_ | fail
        repeat' first
          | refine k_then ?_ | refine c_seq ?_ | refine c_region ?_ | refine s_nil ?_ | refine s_move (by exact rfl) (by exact rfl) ?_ | refine s_assign (by exact rfl) (by exact rfl) ?_ | refine s_idxi (by exact rfl) (by exact rfl) (by exact rfl) (by assumption) (by first | assumption | omega) ?_ | refine s_ld_row (by exact rfl) (by exact rfl) (by exact .tail _ (.head _)) (by assumption) ?_ | refine c_block ?_ | fail
        have hmn : ((m.toNat : Nat) : Int) = m := Int.toNat_of_nonneg (by omega)
        have hrd : readL s = (match edgesL n m.toNat 1 rest with
        | .inl x => .inl x
        | .inr y => if y.2 = [] then .inr (n, y.1) else .inl (m + 2, 3)) := by
          rw [readL, hL]; simp only [h1, h4, not_true, and_self, if_false]
          cases edgesL n m.toNat 1 rest <;> rfl
        refine c_nil 60 3 ?_
        refine c_loop (fun x : Nat × List E × List UInt8 × Value => x.1 ≤ m.toNat ∧ x.2.1.length = x.1 ∧ x.2.2.1.length + x.1 ≤ 20000 ∧ edgesL n m.toNat 1 rest = pre x.2.1 (edgesL n (m.toNat - x.1) (1 + (x.1 : Int)) x.2.2.1)) (fun x => [(2, .pointer (some ⟨b2, 0, none⟩)), (3, .pointer (some ⟨b3, 0, none⟩)), (4, .pointer (some ⟨rb, 0, none⟩)), (5, v5), (6, x.2.2.2), (51, .int .i64 m), (52, .int .i64 (x.1 : Int))])
          (fun x => [boxHP rb 99 [.string ⟨x.2.2.1.toArray⟩, .int .i64 (1 + (x.1 : Int))], rowHP x.2.2.2 60 3 x.2.1.length (esV x.2.1), rowHP v5 2 1 2 (i6V [n, m]), boxHP b3 27 [.nilIface], boxHP b2 56 [.int .i64 0, .slice none 0 0]])
          (fun x => m.toNat - x.1) (0, [], rest, .slice none 0 0) [1, 0, 0, 0, 0] ⟨Nat.zero_le _, rfl, by dsimp only; omega, by dsimp only; rw [pre_nil]; rfl⟩ rfl ⟨rfl, rfl, rfl, rfl, rfl, rfl, rfl, trivial⟩ ?_
        rintro ⟨j, es, r, v6⟩ ⟨hj, hesl, hrl2, hinv⟩
        dsimp only at hj hesl hrl2 hinv ⊢
        refine know_row (v := v6) (.tail _ (.head _)) fun hv6 hl6 => ?_
        repeat' first
          | refine k_then ?_ | refine c_seq ?_ | refine c_region ?_ | refine s_nil ?_ | refine s_move (by exact rfl) (by exact rfl) ?_ | refine s_lss (by exact rfl) (by exact rfl) (by exact rfl) ?_ | refine s_idxi (by exact rfl) (by exact rfl) (by exact rfl) (by assumption) (by first | assumption | omega) ?_ | refine s_ld_row (by exact rfl) (by exact rfl) (by exact .tail _ (.tail _ (.head _))) (by assumption) ?_ | refine c_block ?_ | refine c_skip ?_ | refine c_exit ?_ | refine k_then_exit ?_ | refine k_blk_eq ?_ | (refine c_cond_p (by exact rfl) (fun h => ?_) (fun h => ?_) <;> try (exfalso; omega)) | fail
        · have hmj : m.toNat - j = (m.toNat - (j + 1)) + 1 := by omega
          rw [hmj] at hinv
          cases hle : lineL r edgeB 3 with
          | none =>
            have hx : readL s = .inl (1 + (j : Int) + 1, 3) := by rw [hrd, hinv, edgesL_none hle]; rfl
            refine s_callF (vs := [_, .int .i64 n]) [boxHP rb 99 [.string ⟨r.toArray⟩, .int .i64 (1 + (j : Int))]] _ rfl (by exact rfl) (fun w S h => (tEdge_ok rb r n (1 + (j : Int)) (by omega) (by omega) w S (hM.lent h) h.own).mono (EdgeP.none hle)) ?_
            intro v L' hv
            obtain ⟨nb, rfl, rfl⟩ := hv
            repeat first | refine k_then_pan ?_ | refine k_blk_pan ?_
            exact leave_pan hD rfl rfl rfl [4, 3, 0] rfl (hbad hx)
          | some p =>
            obtain ⟨ns, r2⟩ := p
            obtain ⟨hl3, hr3, hb3⟩ := lineL_len hle
            obtain ⟨a, b, c, rfl⟩ : ∃ a b c, ns = [a, b, c] := by
              match ns, hl3 with
              | [a, b, c], _ => exact ⟨a, b, c, rfl⟩
            by_cases hk : edgeK n a b c = 0
            · refine s_lend (vs := [_, .int .i64 n]) [boxHP rb 99 [.string ⟨r.toArray⟩, .int .i64 (1 + (j : Int))]] _ rfl (by exact rfl) (by exact rfl) (fun w S h => (tEdge_ok rb r n (1 + (j : Int)) (by omega) (by omega) w S (hM.lent h) h.own).mono (EdgeP.good hle hk)) ?_
              rintro _ L' ⟨rfl, rfl⟩
              skip
              refine o_mk [.agg (eV (a, b, c)).toArray] (by exact rfl) (by exact rfl) rfl ?_ ?_ (by simp) fun va hva => ?_
              · simp [Value.cells, eV]
              · simp
              refine o_append_row (bytes := 24) (k := 1) (i := 2) (by exact rfl) (by exact rfl) (by exact rfl) (by exact rfl) (by exact .head _) (by simp [Value.cells, eV]) (by simp [Value.cells, eV, Value.oneCell']) (by omega) fun v7 hv7 => ?_
              repeat' first
                | refine k_then ?_ | refine c_region ?_ | refine s_nil ?_ | refine s_move (by exact rfl) (by exact rfl) ?_ | refine s_assign (by exact rfl) (by exact rfl) ?_ | refine s_add (by exact rfl) (by exact rfl) (by exact rfl) (by omega) ?_ | refine k_blk ?_ | fail
              refine c_round (j + 1, es ++ [(a, b, c)], r2, v7) [1, 1, 1, 1, 1] (by dsimp only; rw [List.length_append, esV_append, show (1 + ((j + 1 : Nat) : Int)) = 1 + (j : Int) + 1 by omega]; exact rfl) ⟨rfl, rfl, rfl, rfl, rfl, rfl, rfl, trivial⟩ ⟨by dsimp only; omega, by dsimp only; rw [List.length_append, hesl]; rfl, by dsimp only; omega, by
                dsimp only
                rw [hinv, edgesL_step hle hk, ← pre_snoc, show (1 + ((j + 1 : Nat) : Int)) = 1 + (j : Int) + 1 by omega]⟩ (by dsimp only; omega)
            · have hx : readL s = .inl (1 + (j : Int) + 1, edgeK n a b c) := by rw [hrd, hinv, edgesL_bad hle hk]; rfl
              refine s_callF (vs := [_, .int .i64 n]) [boxHP rb 99 [.string ⟨r.toArray⟩, .int .i64 (1 + (j : Int))]] _ rfl (by exact rfl) (fun w S h => (tEdge_ok rb r n (1 + (j : Int)) (by omega) (by omega) w S (hM.lent h) h.own).mono (EdgeP.bad hle hk)) ?_
              intro v L' hv
              obtain ⟨nb, rfl, rfl⟩ := hv
              repeat first | refine k_then_pan ?_ | refine k_blk_pan ?_
              exact leave_pan hD rfl rfl rfl [4, 3, 0] rfl (hbad hx)
        · obtain rfl : j = m.toNat := by omega
          have hend : edgesL n m.toNat 1 rest = .inr (es, r) := by
            rw [hinv, Nat.sub_self]
            show pre es (.inr ([], r)) = _
            rw [pre, List.append_nil]
          by_cases hre : r = []
          · subst hre
            have hx : readL s = .inr (n, es) := by rw [hrd, hend]; rfl
            refine c_draw (by kernel_rfl) (by kernel_rfl) ?_
            repeat' first
              | refine d_move (by exact rfl) (by exact rfl) ?_ | refine d_fa (by exact rfl) (by exact rfl) ?_ | refine d_ld_box (by exact rfl) (by exact rfl) (by exact .head _) (by exact rfl) ?_ | refine d_add (by exact rfl) (by exact rfl) (by exact rfl) (by omega) ?_ | refine d_q rfl rfl (by exact rfl) (q_nilck rfl (by exact rfl)).q ?_ | refine d_q rfl rfl (by exact rfl) (q_seq rfl (by exact rfl) (by exact rfl)).q ?_ | fail
            rw [beq_self_eq_true]
            refine d_call (vs := [.bool true, .int .i64 (1 + ((m.toNat : Nat) : Int) + 1), .int .i64 3]) (by exact rfl) (by exact rfl) (fun w h => needT_ok _ _ w) ?_
            repeat' first
              | refine d_nil ?_ | fail
            repeat' first
              | refine k_then ?_ | refine c_seq ?_ | refine c_region ?_ | refine s_move (by exact rfl) (by exact rfl) ?_ | refine s_idxi (by exact rfl) (by exact rfl) (by exact rfl) (by assumption) (by first | assumption | omega) ?_ | refine s_ld_row (by exact rfl) (by exact rfl) (by exact .tail _ (.tail _ (.head _))) (by assumption) ?_ | fail
            refine o_call (by exact rfl) (by exact rfl) (fun w h => Make_ok n v6 es w hv6 (ro_own h (.tail _ (.head _))) (by omega)) ?_
            rintro _ L' ⟨vo, K, ms, rfl, rfl, hmk⟩
            have hmk2 := hmk.eq
            refine know_row (v := vo) (.head _) fun hvo _ => ?_
            repeat' first
              | refine s_move (by exact rfl) (by exact rfl) ?_ | refine s_extract (by exact rfl) (by exact rfl) (by exact rfl) ?_ | fail
            refine o_stk_box (i := 5) (us := [.int .i64 (if K = 0 then n else 0), vo]) (by exact rfl) (by exact rfl) (by exact rfl) (by exact rfl) (by exact rfl) (by
              intro u hu
              simp only [List.mem_cons, List.mem_nil_iff, or_false] at hu
              rcases hu with rfl | rfl
              · rfl
              · exact hvo.one) (by simp [Value.cells]) ?_
            repeat' first
              | refine k_then ?_ | refine c_seq ?_ | refine s_nil ?_ | refine s_assign (by exact rfl) (by exact rfl) ?_ | fail
            have hPP : ParseP s w = fun e w' => if (makeR n es).1 = 0
    then Post w No (fun u L' => ∃ vo, u = .tuple #[.agg #[.int .i64 n, vo], .nilIface] ∧ L' = [rowHP vo 60 3 (makeR n es).2.length (esV (makeR n es).2)]) e w'
    else Post w No (fun u L' => ∃ vo nb, u = .tuple #[.agg #[.int .i64 0, vo], chV (kdV (makeR n es).1) [⟨nb, textB, 0⟩]] ∧ L' = [rowHP vo 60 3 (makeR n es).2.length (esV (makeR n es).2), boxHP nb 37 (ndC (kdV (makeR n es).1) ⟨nb, textB, 0⟩ [])]) e w' := by
              funext e w'; rw [ParseP, hx]
            rw [hmk2] at hPP
            by_cases hK : K = 0
            · subst hK
              rw [if_pos rfl] at *
              refine p_beginx [2, 3] [(0, true), (1, true), (2, false), (3, false), (4, false), (5, false)] [boxHP b2 56 [.int .i64 n, vo]] (by kernel_rfl) ?_
              repeat' first
                | (refine p_at (by exact rfl) ?_
                   first
                    | refine t_move (by exact rfl) (by exact rfl) (by exact fun _ h => h.pick [5] (by exact rfl)) ?_ | refine t_ldk_box (by exact rfl) (by exact rfl) (by exact .head _) (by exact rfl) (by exact rfl) (by exact fun _ h => h.pick [5] (by exact rfl)) ?_ | fail)
                | fail
              refine p_r (by exact rfl) rfl rfl (by exact rfl) (by exact fun _ h => h.pick [5] (by exact rfl)) (q_iface rfl (by exact rfl)) ?_
              refine p_call (gd := none) (vs := [.string textB, .int .i64 0, kdV 0]) (by exact rfl) rfl (by exact rfl) (fun w h => WrapOK_ok _ _ w) (by exact fun _ h => h.pick [5] (by exact rfl)) ?_
              refine p_stk_box (j := 5) (us := [.int .i64 n, vo]) (by exact rfl) (by exact rfl) (by exact rfl) (by exact rfl) (by simp [Value.cells]) rfl (by
                intro u hu
                simp only [List.mem_cons, List.mem_nil_iff, or_false] at hu
                rcases hu with rfl | rfl
                · rfl
                · exact hvo.one) (by rw [putL_length]; exact Nat.le_refl _) (fun _ h => h.pick [5] (by exact rfl)) ?_
              refine p_st_box (j := 4) (by exact rfl) (by exact rfl) (by exact rfl) (by exact rfl) rfl (by simp) (fun _ h => h.pick [5] (by exact rfl)) ?_
              refine p_nil ?_
              repeat' first
                | refine k_then ?_ | refine c_ret ?_ | fail
              refine leave_ret hD rfl rfl [5, 4, 0] (by exact rfl) fun w' hst => ?_
              rw [hPP]; dsimp only; rw [if_pos rfl]
              exact post_of hst ⟨vo, rfl, rfl⟩
            · rw [if_neg hK] at *
              refine p_beginx [2, 3] [(0, true), (1, true), (2, false), (3, false), (4, false), (5, false)] [boxHP b2 56 [.int .i64 0, vo]] (by kernel_rfl) ?_
              repeat' first
                | (refine p_at (by exact rfl) ?_
                   first
                    | refine t_move (by exact rfl) (by exact rfl) (by exact fun _ h => h.pick [5] (by exact rfl)) ?_ | refine t_ldk_box (by exact rfl) (by exact rfl) (by exact .head _) (by exact rfl) (by exact rfl) (by exact fun _ h => h.pick [5] (by exact rfl)) ?_ | fail)
                | fail
              refine p_r (by exact rfl) rfl rfl (by exact rfl) (by exact fun _ h => h.pick [5] (by exact rfl)) (q_iface rfl (by exact rfl)) ?_
              refine p_call' (vs := [.string textB, .int .i64 0, kdV K]) (by exact rfl) (by exact rfl) (by exact rfl) (fun w h => WrapK_ok textB 0 K w hK) ?_
              rintro _ L' ⟨nb, rfl, rfl⟩
              refine ⟨fun _ h => h.pick [6] (by exact rfl), ?_⟩
              refine p_stk_box (j := 6) (us := [.int .i64 0, vo]) (by exact rfl) (by exact rfl) (by exact rfl) (by exact rfl) (by simp [Value.cells]) rfl (by
                intro u hu
                simp only [List.mem_cons, List.mem_nil_iff, or_false] at hu
                rcases hu with rfl | rfl
                · rfl
                · exact hvo.one) (by rw [putL_length]; exact Nat.le_refl _) (fun _ h => h.pick [6] (by exact rfl)) ?_
              refine p_st_box (j := 5) (by exact rfl) (by exact rfl) (by exact rfl) (by exact rfl) rfl (by simp) (fun _ h => h.pick [6] (by exact rfl)) ?_
              refine p_nil ?_
              repeat' first
                | refine k_then ?_ | refine c_ret ?_ | fail
              refine leave_ret hD rfl rfl [6, 5, 1, 0] (by exact rfl) fun w' hst => ?_
              rw [hPP]; dsimp only; rw [if_neg hK]
              exact post_of hst ⟨vo, nb, rfl, rfl⟩
          · have hx : readL s = .inl (1 + ((m.toNat : Nat) : Int) + 1, 3) := by rw [hrd, hend, show 1 + ((m.toNat : Nat) : Int) + 1 = m + 2 by omega]; simp only [hre, if_false]
            refine p_beginx0 [2, 3] [(0, true), (1, true), (2, true), (3, true), (4, true), (5, true), (6, true), (7, true), (8, true), (9, true), (10, false)] (by kernel_rfl) ?_
            repeat' first
              | (refine p_at (by exact rfl) ?_
                 first
                  | refine t_move (by exact rfl) (by exact rfl) (by exact fun _ h => h) ?_ | fail)
              | fail
            refine p_at (by exact rfl) ?_
            refine t_nilc (by exact rfl) (by exact rfl) (by exact fun _ h => h) ?_
            repeat' first
              | (refine p_at (by exact rfl) ?_
                 first
                  | refine t_fa (by exact rfl) (by exact rfl) (by exact fun _ h => h) ?_ | refine t_ld_box (by exact rfl) (by exact rfl) (by exact .head _) (by exact rfl) (by exact fun _ h => h) ?_ | fail)
              | fail
            refine p_q (by exact rfl) rfl rfl (by exact rfl) (by exact fun _ h => h) (q_seq rfl (by exact rfl) (by exact rfl)) ?_
            have hre2 : r.isEmpty = false := by
              cases r with
              | nil => exact absurd rfl hre
              | cons _ _ => rfl
            rw [strNil, hre2]
            repeat' first
              | (refine p_at (by exact rfl) ?_
                 first
                  | refine t_move (by exact rfl) (by exact rfl) (by exact fun _ h => h) ?_ | fail)
              | fail
            refine p_at (by exact rfl) ?_
            refine t_nilc (by exact rfl) (by exact rfl) (by exact fun _ h => h) ?_
            repeat' first
              | (refine p_at (by exact rfl) ?_
                 first
                  | refine t_fa (by exact rfl) (by exact rfl) (by exact fun _ h => h) ?_ | refine t_ld_box (by exact rfl) (by exact rfl) (by exact .head _) (by exact rfl) (by exact fun _ h => h) ?_ | refine t_add (by exact rfl) (by exact rfl) (by exact rfl) (by omega) (by exact fun _ h => h) ?_ | fail)
              | fail
            refine p_callF (vs := [.bool false, .int .i64 (1 + ((m.toNat : Nat) : Int) + 1), .int .i64 3]) [] _ rfl (by exact rfl) (by exact rfl) (fun w S h => needF_ok (1 + ((m.toNat : Nat) : Int) + 1) 3 (by decide) w S) ?_
            intro v L' hv
            obtain ⟨nb, rfl, rfl⟩ := hv
            repeat first | refine k_then_pan ?_ | refine k_blk_pan ?_
            exact leave_pan hD rfl rfl rfl [5, 4, 0] rfl (hbad hx)
      · have hx : readL s = .inl (0 + 1, 4) := by rw [readL, hL]; simp only [h1, h4, not_true, not_false_iff, if_true, if_false]; rfl
        refine p_beginx0 [2, 3] [(0, true), (1, true), (2, true), (3, true), (4, true), (5, true), (6, true), (7, true), (8, true), (9, true), (10, true), (11, true), (12, true), (13, true), (14, false)] (by kernel_rfl) ?_
        repeat' first
          | (refine p_at (by exact rfl) ?_
             first
              | refine t_move (by exact rfl) (by exact rfl) (by exact fun _ h => h) ?_ | refine t_leq (by exact rfl) (by exact rfl) (by exact rfl) (by exact fun _ h => h) ?_ | refine t_idxi (by exact rfl) (by exact rfl) (by exact rfl) (by assumption) (by first | assumption | omega) (by exact fun _ h => h) ?_ | refine t_pick_t (by exact rfl) (by exact rfl) (by exact rfl) (by exact fun _ h => h) ?_ | refine t_pick_f (by exact rfl) (by exact rfl) (by exact rfl) (by exact fun _ h => h) ?_ | refine t_ld_row (by exact rfl) (by exact rfl) (by exact .tail _ (.head _)) (by assumption) (by exact fun _ h => h) ?_ | refine tw_move (by exact rfl) (by exact rfl) (by exact rfl) (by exact rfl) (by exact fun _ h => h) ?_ | refine tw_leq (by exact rfl) (by exact rfl) (by exact rfl) (by exact rfl) (by exact rfl) (by exact fun _ h => h) ?_ | refine tw_idxi (by exact rfl) (by exact rfl) (by exact rfl) (by exact rfl) (by exact rfl) (by assumption) (by first | assumption | omega) (by exact fun _ h => h) ?_ | refine tw_ld_row (by exact rfl) (by exact rfl) (by exact rfl) (by exact rfl) (by exact .tail _ (.head _)) (by assumption) (by exact fun _ h => h) ?_ | (refine t_case (by exact rfl) (by exact rfl) (fun h => ?_) (fun h => ?_) <;> try (exfalso; omega)) | refine t_skip (by exact rfl) (by exact rfl) (by exact rfl) (by exact rfl) (by exact fun _ h => h) ?_ | fail)
          | fail
        all_goals (
          refine p_at (by exact rfl) ?_
          refine t_nilc (by exact rfl) (by exact rfl) (by exact fun _ h => h) ?_
          repeat' first
            | (refine p_at (by exact rfl) ?_
               first
                | refine t_fa (by exact rfl) (by exact rfl) (by exact fun _ h => h) ?_ | refine t_ld_box (by exact rfl) (by exact rfl) (by exact .head _) (by exact rfl) (by exact fun _ h => h) ?_ | fail)
            | fail
          try rw [decide_eq_false (p := m ≤ 4194304) (fun hc => h4 ⟨‹_›, hc⟩)]
          refine p_callF (vs := [.bool false, .int .i64 (0 + 1), .int .i64 4]) [] _ rfl (by exact rfl) (by exact rfl) (fun w S h => needF_ok (0 + 1) 4 (by decide) w S) ?_
          intro v L' hv
          obtain ⟨nb, rfl, rfl⟩ := hv
          repeat first | refine k_then_pan ?_ | refine k_blk_pan ?_
          exact leave_pan hD rfl rfl rfl [4, 3, 0] rfl (hbad hx))
    · have hx : readL s = .inl (0 + 1, 1) := by rw [readL, hL]; simp only [h1, not_false_iff, if_true]; rfl
      refine p_beginx0 [2, 3] [(0, true), (1, true), (2, true), (3, true), (4, true), (5, true), (6, true), (7, true), (8, true), (9, true), (10, true), (11, true), (12, false)] (by kernel_rfl) ?_
      repeat' first
        | (refine p_at (by exact rfl) ?_
           first
            | refine t_move (by exact rfl) (by exact rfl) (by exact fun _ h => h) ?_ | refine t_geq (by exact rfl) (by exact rfl) (by exact rfl) (by exact fun _ h => h) ?_ | refine t_min (by exact rfl) (by exact rfl) (by exact rfl) (by exact fun _ h => h) ?_ | refine t_idxi (by exact rfl) (by exact rfl) (by exact rfl) (by assumption) (by first | assumption | omega) (by exact fun _ h => h) ?_ | refine t_ld_row (by exact rfl) (by exact rfl) (by exact .tail _ (.head _)) (by assumption) (by exact fun _ h => h) ?_ | fail)
        | fail
      refine p_at (by exact rfl) ?_
      refine t_nilc (by exact rfl) (by exact rfl) (by exact fun _ h => h) ?_
      repeat' first
        | (refine p_at (by exact rfl) ?_
           first
            | refine t_fa (by exact rfl) (by exact rfl) (by exact fun _ h => h) ?_ | refine t_ld_box (by exact rfl) (by exact rfl) (by exact .head _) (by exact rfl) (by exact fun _ h => h) ?_ | fail)
        | fail
      rw [decide_eq_false h1]
      refine p_callF (vs := [.bool false, .int .i64 (0 + 1), .int .i64 1]) [] _ rfl (by exact rfl) (by exact rfl) (fun w S h => needF_ok (0 + 1) 1 (by decide) w S) ?_
      intro v L' hv
      obtain ⟨nb, rfl, rfl⟩ := hv
      repeat first | refine k_then_pan ?_ | refine k_blk_pan ?_
      exact leave_pan hD rfl rfl rfl [4, 3, 0] rfl (hbad hx)
end Go.Proofs.YtllkoinbfegonaaDoor
end
section
set_option linter.unusedVariables false
namespace Go.Sl
open Go Go.RowKit
section
variable {P : Program} {w0 : World} {S0 : FS} {n : Nat} {F : List (Nat × Value)} {L : List HP} {rest : List Oper} {ops : Array Oper} {Q : Exit → Act → World → Prop} {d : Nat}
theorem s_lendv {f : FuncId} {c : Operand} {xs : Array Operand} {ts : Array TypeId} {vs pre caps : List Value} {G : Value → List HP → Prop} {ty : TypeId} {ps : String} {af : Array Edge} (L0 Lr : List HP) (hLL : L = L0 ++ Lr) (hn : Nat.blt d n = true) (hcv : ev F c = some (.func (.func f) pre.toArray caps.toArray)) (hvs : xs.toList.map (ev F) = vs.map some) [T : FnTy P f]
    (hc : ∀ w S, Lent w0 S0 L0 Lr S w → Calls P f (pre ++ vs ++ caps).toArray w (Post w S G)) (h : ∀ v L', G v L' → Reach w0 S0 n ((d, v) :: F) (L' ++ Lr) (wpList P ops Q rest)) : Reach w0 S0 n F L (wpList P ops Q (⟨some d, .call { callee := .value c, args := xs, argTypes := ts }, ty, ps, af, none⟩ :: rest)) :=
  s_of_l rfl fun R hR => l_lendv L0 Lr hLL rfl rfl hn hcv hvs hc fun v L' g => (h v L' g).imp hR
end
end Go.Sl
namespace Go.Proofs.YtllkoinbfegonaaDoor
open Go Go.RowKit Go.Sl Go.Stop Go.Extern.Stop Go.Extern
set_option maxRecDepth 100000
set_option maxHeartbeats 8000000
set_option linter.unusedVariables false
set_option linter.unusedSimpArgs false
attribute [local irreducible] Code.wp wpList bodyPost wpQuiet Exit.then Exit.inBlock Post wpAnyH wpOp
theorem asKF (v : Value) (w : World) : (Instr.typeAssert (.iface 23 v) 27 29 true).run Tryd.prog w = .ok (.tuple #[.pointer none, .bool false]) w := by kernel_rfl
/-- the first place of a name -/
def placeL (wh : ByteArray) : List Stp → Int
  | [] => -1
  | x :: r => if x.1.toList == wh.toList then x.2 else placeL wh r
theorem place1_ok (x : Nd) (c : Value) (wb ab : Nat) (wh : ByteArray) (a : Value) (w : World) (S : FS) (hx : RB w S x.b 37 [.string x.s, .int .i64 x.i, c]) (hs : sats [boxHP wb 9 [.string wh], boxHP ab 3 [a]] S w) :
    Calls Tryd.prog 40 #[.pointer (some ⟨x.b, 0, none⟩), .pointer (some ⟨wb, 0, none⟩), .pointer (some ⟨ab, 0, none⟩)] w (Post w S fun u L' => u = .bool (!(x.s.toList == wh.toList)) ∧ L' = [boxHP wb 9 [.string wh], boxHP ab 3 [if x.s.toList == wh.toList then .int .i64 x.i else a]]) := by
  refine enter (vs := [_, _, _]) Tryd.func40 rfl Tryd.ntmps40 rfl hs ?_
  repeat' first
    | refine k_then ?_ | refine c_seq ?_ | refine c_region ?_ | refine s_nil ?_ | refine s_assign (by exact rfl) (by exact rfl) ?_ | fail
  refine c_draw (by kernel_rfl) (by kernel_rfl) ?_
  repeat' first
    | refine d_nil ?_ | refine d_move (by exact rfl) (by exact rfl) ?_ | refine d_fa (by exact rfl) (by exact rfl) ?_ | refine d_ld_box (by exact rfl) (by exact rfl) (by exact .head _) (by exact rfl) ?_ | refine d_ld_rb (by exact rfl) (by exact rfl) (by assumption) (by exact rfl) ?_ | refine d_q rfl rfl (by exact rfl) (q_nilck rfl (by exact rfl)).q ?_ | refine d_q rfl rfl (by exact rfl) (q_seq rfl (by exact rfl) (by exact rfl)).q ?_ | fail
  cases hb : x.s.toList == wh.toList with
  | false =>
    repeat' first
      | refine k_then ?_ | refine c_seq ?_ | refine c_region ?_ | refine s_nil ?_ | refine s_assign (by exact rfl) (by exact rfl) ?_ | refine c_skip ?_ | refine c_ret ?_ | refine c_cond_f (by exact rfl) ?_ | fail
    exact ret1 [0, 0] rfl rfl rfl ⟨rfl, rfl⟩
  | true =>
    repeat' first
      | refine k_then ?_ | refine c_seq ?_ | refine c_region ?_ | refine s_move (by exact rfl) (by exact rfl) ?_ | refine s_fa (by exact rfl) (by exact rfl) ?_ | refine s_ld_rb (by exact rfl) (by exact rfl) (by assumption) (by exact rfl) ?_ | refine c_cond_t (by exact rfl) ?_ | refine s_nilc (by exact rfl) (by exact rfl) ?_ | fail
    refine o_st_box (i := 1) (by exact rfl) (by exact rfl) (by exact rfl) rfl (by simp [Value.cells]) ?_
    repeat' first
      | refine k_then ?_ | refine c_seq ?_ | refine c_region ?_ | refine s_nil ?_ | refine s_assign (by exact rfl) (by exact rfl) ?_ | refine c_ret ?_ | refine k_then_ret ?_ | fail
    exact ret1 [0, 0] rfl rfl rfl ⟨rfl, rfl⟩
theorem eachP_ok (k : Int) (r : List Nd) (wb ab : Nat) (wh : ByteArray) (w : World) (S : FS) (hr : ChR w S (.iface 23 (.int .i64 k)) r) (hs : sats [boxHP wb 9 [.string wh], boxHP ab 3 [.int .i64 (-1)]] S w) :
    Calls Tryd.prog 38 #[chV (.iface 23 (.int .i64 k)) r, .func (.func 40) #[] #[.pointer (some ⟨wb, 0, none⟩), .pointer (some ⟨ab, 0, none⟩)]] w (Post w S fun u L' => u = .tuple #[] ∧ L' = [boxHP wb 9 [.string wh], boxHP ab 3 [.int .i64 (placeL wh (ndOf r))]]) := by
  refine enter (vs := [_, _]) Tryd.func38 rfl Tryd.ntmps38 rfl hs ?_
  repeat' first
    | refine c_block ?_ | fail
  refine c_loop (fun q : List Nd => placeL wh (ndOf q) = placeL wh (ndOf r) ∧ ChR w S (.iface 23 (.int .i64 k)) q) (fun q => [(0, chV (.iface 23 (.int .i64 k)) q), (1, .func (.func 40) #[] #[.pointer (some ⟨wb, 0, none⟩), .pointer (some ⟨ab, 0, none⟩)])])
    (fun _ => [boxHP wb 9 [.string wh], boxHP ab 3 [.int .i64 (-1)]]) List.length r [0, 0] ⟨rfl, hr⟩ rfl ⟨rfl, rfl, trivial⟩ ?_
  rintro q ⟨haq, hq⟩
  obtain ⟨tt, uu, e⟩ := chV_if (bv := .iface 23 (.int .i64 k)) ⟨_, _, rfl⟩ q
  repeat' first
    | refine c_seq ?_ | refine c_region ?_ | refine s_move (by exact rfl) (by exact rfl) ?_ | fail
  refine s_q rfl rfl (by exact rfl) (q_nonnil_f rfl (by exact congrArg some e)).q ?_
  repeat' first
    | refine k_then ?_ | refine c_seq ?_ | refine c_region ?_ | refine s_nil ?_ | refine s_move (by exact rfl) (by exact rfl) ?_ | refine c_block ?_ | refine c_skip ?_ | refine c_cond_t (by exact rfl) ?_ | fail
  cases q with
  | nil =>
    refine s_q rfl rfl (by exact rfl) (q_assert (asKF _) rfl (by exact rfl)).q ?_
    repeat' first
      | refine k_then ?_ | refine c_seq ?_ | refine c_region ?_ | refine s_nil ?_ | refine s_move (by exact rfl) (by exact rfl) ?_ | refine s_assign (by exact rfl) (by exact rfl) ?_ | refine s_not (by exact rfl) (by exact rfl) ?_ | refine s_extract (by exact rfl) (by exact rfl) (by exact rfl) ?_ | refine s_pick_t (by exact rfl) (by exact rfl) (by exact rfl) ?_ | refine c_ret ?_ | refine k_then_ret ?_ | refine k_blk_ret ?_ | refine c_cond_t (by exact rfl) ?_ | refine g_skip (by exact rfl) (by exact rfl) (by exact rfl) (by exact rfl) ?_ | fail
    refine retL [] [] [0, 0] rfl trivial (by exact rfl) ⟨rfl, ?_⟩
    rw [← haq]; rfl
  | cons x q =>
    refine s_q rfl rfl (by exact rfl) (q_assert (asFF _) rfl (by exact rfl)).q ?_
    repeat' first
      | refine k_then ?_ | refine c_seq ?_ | refine c_region ?_ | refine s_nil ?_ | refine s_move (by exact rfl) (by exact rfl) ?_ | refine s_assign (by exact rfl) (by exact rfl) ?_ | refine s_not (by exact rfl) (by exact rfl) ?_ | refine s_extract (by exact rfl) (by exact rfl) (by exact rfl) ?_ | refine s_pick_f (by exact rfl) (by exact rfl) (by exact rfl) ?_ | refine w_move (by exact rfl) (by exact rfl) (by exact rfl) (by exact rfl) ?_ | refine g_on (by exact rfl) (by exact rfl) ?_ | refine s_q rfl rfl (by exact rfl) (q_pnil_f rfl (by exact rfl)).q ?_ | fail
    refine s_lendv (vs := [.pointer (some ⟨x.b, 0, none⟩)]) (pre := []) (caps := [.pointer (some ⟨wb, 0, none⟩), .pointer (some ⟨ab, 0, none⟩)]) [boxHP wb 9 [.string wh], boxHP ab 3 [.int .i64 (-1)]] [] (by exact rfl) (by exact rfl) (by exact rfl) (by exact rfl) (fun w S h => place1_ok x _ wb ab wh _ w S (h.rb_old hq.1) h.own) ?_
    rintro u L' ⟨rfl, rfl⟩
    have hpl : placeL wh (ndOf (x :: q)) = if x.s.toList == wh.toList then x.i else placeL wh (ndOf q) := rfl
    have hbx := hq.1
    cases hb : x.s.toList == wh.toList with
    | false =>
      repeat' first
        | refine k_then ?_ | refine c_region ?_ | refine s_nil ?_ | refine s_move (by exact rfl) (by exact rfl) ?_ | refine s_assign (by exact rfl) (by exact rfl) ?_ | refine s_fa (by exact rfl) (by exact rfl) ?_ | refine s_pick_f (by exact rfl) (by exact rfl) (by exact rfl) ?_ | refine s_ld_rb (by exact rfl) (by exact rfl) (by assumption) (by exact rfl) ?_ | refine c_skip ?_ | refine k_blk ?_ | refine c_cond_f (by exact rfl) ?_ | refine w_not (by exact rfl) (by exact rfl) (by exact rfl) (by exact rfl) ?_ | refine s_nilc (by exact rfl) (by exact rfl) ?_ | fail
      rw [hpl, hb] at haq
      exact c_round q [0, 0] rfl ⟨rfl, rfl, trivial⟩ ⟨haq, hq.2⟩ (Nat.lt_succ_self _)
    | true =>
      repeat' first
        | refine k_then ?_ | refine s_nil ?_ | refine s_pick_f (by exact rfl) (by exact rfl) (by exact rfl) ?_ | refine c_ret ?_ | refine k_then_ret ?_ | refine k_blk_ret ?_ | refine c_cond_t (by exact rfl) ?_ | refine w_not (by exact rfl) (by exact rfl) (by exact rfl) (by exact rfl) ?_ | fail
      rw [hpl, hb] at haq
      refine retL [] [] [0, 0] rfl trivial (by exact rfl) ⟨rfl, ?_⟩
      rw [← haq]; rfl
theorem Place_ok (k : Int) (r : List Nd) (wh : ByteArray) (w : World) (hr : ChR w No (.iface 23 (.int .i64 k)) r) :
    Calls Tryd.prog 21 #[chV (.iface 23 (.int .i64 k)) r, .string wh] w (Post w No (Just (.int .i64 (placeL wh (ndOf r))))) := by
  refine enter0 (vs := [_, _]) Tryd.func21 rfl Tryd.ntmps21 rfl ?_
  repeat' first
    | refine k_then ?_ | refine c_seq ?_ | refine c_region ?_ | refine s_nil ?_ | refine s_assign (by exact rfl) (by exact rfl) ?_ | refine o_box (by exact rfl) (by exact rfl) (fun b => ?_) | refine o_alloc (by exact rfl) (fun b => ?_) | fail
  refine o_st_box (i := 0) (by exact rfl) (by exact rfl) (by exact rfl) rfl (by simp [Value.cells]) ?_
  repeat' first
    | refine k_then ?_ | refine c_seq ?_ | refine c_region ?_ | refine s_nil ?_ | refine s_move (by exact rfl) (by exact rfl) ?_ | fail
  refine s_q rfl rfl (by exact rfl) (q_mkf (vs := []) (us := [_, _]) rfl (by exact rfl) (by exact rfl)).q ?_
  rename_i wb
  refine c_pick [1, 0] (by exact rfl) ?_
  refine s_lend (vs := [_, _]) [boxHP wb 9 [.string wh], boxHP b 3 [.int .i64 (-1)]] [] (by exact rfl) (by exact rfl) (by exact rfl) (fun w S h => eachP_ok k r wb b wh w S (hr.lent h) h.own) ?_
  rintro u L' ⟨rfl, rfl⟩
  repeat' first
    | refine k_then ?_ | refine c_seq ?_ | refine c_region ?_ | refine s_nil ?_ | refine s_assign (by exact rfl) (by exact rfl) ?_ | refine s_ld_box (by exact rfl) (by exact rfl) (by exact .tail _ (.head _)) (by exact rfl) ?_ | refine c_ret ?_ | fail
  exact ret1 [] rfl rfl rfl ⟨rfl, rfl⟩
end Go.Proofs.YtllkoinbfegonaaDoor
end
section
set_option linter.unusedVariables false
set_option linter.unusedSimpArgs false
namespace Go.Sl
open Go Go.RowKit
section
variable {P : Program} {w0 : World} {S0 : FS} {n : Nat} {F : List (Nat × Value)} {L Lk : List HP} {o : Oper} {x y : Operand} {t e : TypeId} {a b : Int} {ops : Array Oper} {Q : Exit → Act → World → Prop} {d i : Nat} {ty : TypeId} {ps : String} {af : Array Edge} {plan : List PI}
end
end Go.Sl
end
section
set_option linter.unusedVariables false
set_option linter.unusedSimpArgs false
namespace Go.Sl
open Go Go.RowKit
/-- a struct of two integers -/
class E2Ty (P : Program) (t : TypeId) : Prop where
  g : P.eqGuardType P.depth t = false
  e : ∀ (a b c d : Int) w, (Op.equalIn 10000 t (.agg #[.int .i64 a, .int .i64 b]) (.agg #[.int .i64 c, .int .i64 d])).run P w = .ok (decide (a = c ∧ b = d)) w
section
variable {P : Program} {w0 : World} {S0 : FS} {n : Nat} {F : List (Nat × Value)} {L Lk : List HP} {o : Oper} {x y : Operand} {t t' : TypeId} {a b c e : Int} {rest : List Oper} {ops : Array Oper} {Q : Exit → Act → World → Prop} {d i : Nat} {ty : TypeId} {ps : String} {af : Array Edge} {plan : List PI}
end
open Go.Proofs
end Go.Sl
end
section
set_option linter.unusedVariables false
set_option linter.unusedSimpArgs false
namespace Go.Sl
open Go Go.RowKit
/-- a struct of two integers and a third one -/
class E3Ty (P : Program) (t : TypeId) : Prop where
  g : P.eqGuardType P.depth t = false
  e : ∀ (a b c d e f : Int) w, (Op.equalIn 10000 t (.agg #[.int .i64 a, .int .i64 b, .int .i64 c]) (.agg #[.int .i64 d, .int .i64 e, .int .i64 f])).run P w = .ok (decide (a = d ∧ b = e ∧ c = f)) w
section
variable {P : Program} {w0 : World} {S0 : FS} {n : Nat} {F : List (Nat × Value)} {L Lk : List HP} {o : Oper} {x y : Operand} {t t' e : TypeId} {rest : List Oper} {ops : Array Oper} {Q : Exit → Act → World → Prop} {d i : Nat} {ty : TypeId} {ps : String} {af : Array Edge} {plan : List PI} {s : Value} {k m len : Nat}
end
open Go.Proofs
instance : E3Ty Tryd.prog 60 where
  g := by kernel_rfl
  e a b c d e f w := by
    rw [run_equalIn_agg w 9999 _ _ _ (by kernel_rfl) (by kernel_rfl)]
    simp [Program.fieldsOf, Tryd.underlying60, Op.eqFields, part]
    rw [run_equalIn_int w 9998 3 .i64 .i64 a d Tryd.underlying3, Result.andThen_ok]
    by_cases h1 : a = d
    · rw [if_neg (by simp [h1]), run_equalIn_int w 9998 3 .i64 .i64 b e Tryd.underlying3, Result.andThen_ok]
      by_cases h2 : b = e
      · rw [if_neg (by simp [h2]), run_equalIn_int w 9998 2 .i64 .i64 c f Tryd.underlying2, Result.andThen_ok]
        by_cases h3 : c = f <;> simp [h1, h2, h3]
      · rw [if_pos (by simp [h2])]
        simp [h1, h2]
    · rw [if_pos (by simp [h1])]
      simp [h1]
end Go.Sl
end
section
set_option linter.unusedVariables false
namespace Go.Sl
open Go Go.RowKit
theorem q_eql3 {P : Program} {w0 : World} {S0 : FS} {n : Nat} {F : List (Nat × Value)} {L : List HP} {o : Oper} {x y : Operand} {t t' : TypeId} {a b c a' b' c' : Int} [T : E3Ty P t] (ho : o.op = .binOp .eql t x y t') (hx : ev F x = some (.agg #[.int .i64 a, .int .i64 b, .int .i64 c])) (hy : ev F y = some (.agg #[.int .i64 a', .int .i64 b', .int .i64 c'])) : R1 P w0 S0 n F L o (.bool (decide (a = a' ∧ b = b' ∧ c = c'))) :=
  q_of_pure fun s hf w => by
    simp only [execOp, ho, hf.eval hx, hf.eval hy, Sem.run_bind, Result.andThen_ok, run_eqGuard_agg w _ _ _ _ _ _ T.g, run_eql_struct, T.e]
    rfl
end Go.Sl
namespace Go.Proofs.YtllkoinbfegonaaDoor
open Go Go.RowKit Go.Sl Go.Num Fil
theorem ParseP.bad {s : List UInt8} {i k : Int} {w : World} (h : readL s = .inl (i, k)) : ∀ e w', ParseP s w e w' → Post w No (fun u L' => ∃ nb, u = .tuple #[.agg #[.int .i64 0, .slice none 0 0], chV (kdV k) [⟨nb, lnB, i⟩]] ∧ L' = [boxHP nb 37 (ndC (kdV k) ⟨nb, lnB, i⟩ [])]) e w' := fun e w' hp => by rw [ParseP, h] at hp; exact hp
theorem ParseP.good {s : List UInt8} {n : Int} {es ms : List E} {w : World} (h : readL s = .inr (n, es)) (hm : makeR n es = (0, ms)) : ∀ e w', ParseP s w e w' → Post w No (fun u L' => ∃ vo, u = .tuple #[.agg #[.int .i64 n, vo], .nilIface] ∧ L' = [rowHP vo 60 3 ms.length (esV ms)]) e w' := fun e w' hp => by
  rw [ParseP, h] at hp; dsimp only at hp; rw [hm, if_pos rfl] at hp; exact hp
theorem ParseP.none {s : List UInt8} {n k : Int} {es ms : List E} {w : World} (h : readL s = .inr (n, es)) (hm : makeR n es = (k, ms)) (hk : k ≠ 0) : ∀ e w', ParseP s w e w' → Post w No (fun u L' => ∃ vo nb, u = .tuple #[.agg #[.int .i64 0, vo], chV (kdV k) [⟨nb, textB, 0⟩]] ∧ L' = [rowHP vo 60 3 ms.length (esV ms), boxHP nb 37 (ndC (kdV k) ⟨nb, textB, 0⟩ [])]) e w' := fun e w' hp => by
  rw [ParseP, h] at hp; dsimp only at hp; rw [hm, if_neg hk] at hp; exact hp
def okT : List UInt8 := [103, 114, 97, 112, 104, 32, 50, 32, 49, 10, 101, 100, 103, 101, 32, 49, 32, 48, 32, 53, 10]
def loopT : List UInt8 := [103, 114, 97, 112, 104, 32, 50, 32, 49, 10, 101, 100, 103, 101, 32, 49, 32, 49, 32, 53, 10]
theorem okT_read : readL okT = .inr (2, [(1, 0, 5)]) := rfl
theorem okT_make : makeR 2 [(1, 0, 5)] = (0, [(0, 1, 5)]) := rfl
theorem loopT_read : readL loopT = .inl (2, 6) := rfl
set_option maxRecDepth 100000
set_option maxHeartbeats 8000000
set_option linter.unusedVariables false
set_option linter.unusedSimpArgs false
attribute [local irreducible] Code.wp wpList bodyPost wpQuiet Exit.then Exit.inBlock Post wpAnyH wpOp
theorem alive05_ok (w : World) (hM : MX w No) (hg : RC w No 0 (rT 27)) : Calls Tryd.prog 25 #[] w (Post w No (Just (.bool true))) := by
  refine enter0 (vs := []) Tryd.func25 rfl Tryd.ntmps25 rfl ?_
  repeat' first
    | refine k_then ?_ | refine c_seq ?_ | refine c_region ?_ | refine s_nil ?_ | refine s_assign (by exact rfl) (by exact rfl) ?_ | fail
  refine o_mk (byV okT) (by exact rfl) (by exact rfl) rfl ?_ ?_ (by simp [byV, okT]) fun va hva => ?_
  · simp [byV, okT, Value.cells]
  · simp
  rw [show (List.flatMap (fun u => u.cells.toList) (byV okT)) = byV okT from rfl]
  refine o_mark (k := 0) Tryd.underlying63 Tryd.underlying5 (by exact rfl) (by exact rfl) (by exact rfl) (by decide) fun hvb => ?_
  refine o_call (by exact rfl) (by exact rfl) (fun w h => (Parse_ok _ okT w hvb (ro_bytes h (.head _)) (by decide) (hM.old h)).mono (ParseP.good okT_read okT_make)) ?_
  rintro _ L' ⟨vo, rfl, rfl⟩
  refine know_row (v := vo) (.head _) fun hvo _ => ?_
  repeat' first
    | refine s_move (by exact rfl) (by exact rfl) ?_ | refine s_extract (by exact rfl) (by exact rfl) (by exact rfl) ?_ | refine o_alloc (by exact rfl) (fun b => ?_) | fail
  have h1 : ∀ u ∈ ([.int .i64 2, vo] : List Value), u.oneCell' = true := by
    intro u hu
    simp only [List.mem_cons, List.mem_nil_iff, or_false] at hu
    rcases hu with rfl | rfl
    · rfl
    · exact hvo.one
  refine o_stk_box (i := 0) (us := [.int .i64 2, vo]) (by exact rfl) (by exact rfl) (by exact rfl) (by exact rfl) (by exact rfl) h1 (by simp [Value.cells]) ?_
  repeat' first
    | refine k_then ?_ | refine c_seq ?_ | refine c_region ?_ | refine s_nil ?_ | refine s_assign (by exact rfl) (by exact rfl) ?_ | fail
  revert b; intro b1
  refine o_mk (byV loopT) (by exact rfl) (by exact rfl) rfl ?_ ?_ (by simp [byV, loopT]) fun vb hvb2 => ?_
  · simp [byV, loopT, Value.cells]
  · simp
  rw [show (List.flatMap (fun u => u.cells.toList) (byV loopT)) = byV loopT from rfl]
  refine o_mark (k := 0) Tryd.underlying63 Tryd.underlying5 (by exact rfl) (by exact rfl) (by exact rfl) (by decide) fun hvb3 => ?_
  refine o_call (by exact rfl) (by exact rfl) (fun w h => (Parse_ok _ loopT w hvb3 (ro_bytes h (.head _)) (by decide) (hM.old h)).mono (ParseP.bad loopT_read)) ?_
  rintro _ L' ⟨nb, rfl, rfl⟩
  repeat' first
    | refine s_move (by exact rfl) (by exact rfl) ?_ | refine s_extract (by exact rfl) (by exact rfl) (by exact rfl) ?_ | refine o_alloc (by exact rfl) (fun b => ?_) | fail
  refine o_stk_box (i := 0) (us := [.int .i64 0, .slice none 0 0]) (by exact rfl) (by exact rfl) (by exact rfl) (by exact rfl) (by exact rfl) (by simp [Value.oneCell']) (by simp [Value.cells]) ?_
  have hE : ((esV [(0, 1, 5)]).drop (Int.toNat 0 * 3)).take 3 = eV (0, 1, 5) := rfl
  have hvo1 : Shp vo 1 := hvo
  repeat' first
    | refine k_then ?_ | refine c_seq ?_ | refine c_region ?_ | refine s_nil ?_ | refine s_move (by exact rfl) (by exact rfl) ?_ | refine s_assign (by exact rfl) (by exact rfl) ?_ | refine s_pick_t (by exact rfl) (by exact rfl) (by exact rfl) ?_ | (refine g_case (by exact rfl) (by exact rfl) (fun h => ?_) (fun h => ?_) <;> try (exfalso; omega)) | refine w_fa (by exact rfl) (by exact rfl) (by exact rfl) (by exact rfl) ?_ | refine w_ld_box (by exact rfl) (by exact rfl) (by exact rfl) (by exact rfl) (by exact .tail _ (.tail _ (.tail _ (.head _)))) (by exact rfl) ?_ | refine w_eql (by exact rfl) (by exact rfl) (by exact rfl) (by exact rfl) (by exact rfl) ?_ | refine w_len (by exact rfl) (by exact rfl) (by exact rfl) (by exact rfl) (by assumption) ?_ | refine w_idxi (by exact rfl) (by exact rfl) (by exact rfl) (by exact rfl) (by exact rfl) (by assumption) (by first | assumption | omega) ?_ | refine w_ldk_row (by exact rfl) (by exact rfl) (by exact rfl) (by exact rfl) (by exact .tail _ (.tail _ (.tail _ (.tail _ (.head _))))) (by decide) (by assumption) (by exact rfl) ?_ | refine g_on (by exact rfl) (by exact rfl) ?_ | refine s_q rfl rfl (by exact rfl) (q_nil_t rfl (by exact rfl)).q ?_ | fail
  all_goals try (exfalso; omega)
  refine o_build [(0, .int .i64 0, [.int .i64 0]), (1, .int .i64 1, [.int .i64 1]), (2, .int .i64 5, [.int .i64 5])] (by exact rfl) (by exact rfl) (by simp [Value.cells]) (by exact rfl) ?_
  refine g_on (by exact rfl) (by exact rfl) ?_
  refine s_q rfl rfl (by exact rfl) (q_eql3 rfl (by exact rfl) (by exact rfl)).q ?_
  rw [decide_eq_true (p := (0 : Int) = 0 ∧ (1 : Int) = 1 ∧ (5 : Int) = 5) ⟨rfl, rfl, rfl⟩]
  repeat' first
    | refine s_move (by exact rfl) (by exact rfl) ?_ | refine s_pick_t (by exact rfl) (by exact rfl) (by exact rfl) ?_ | refine w_move (by exact rfl) (by exact rfl) (by exact rfl) (by exact rfl) ?_ | refine g_on (by exact rfl) (by exact rfl) ?_ | refine s_q rfl rfl (by exact rfl) (q_nonnil_f rfl (by exact rfl)).q ?_ | fail
  refine s_call (vs := [chV (kdV 6) [⟨nb, lnB, 2⟩]]) (by exact rfl) (by exact rfl) (fun w h => FOf_ok 6 [⟨nb, lnB, 2⟩] w (hg.old h) ⟨rb_own h (by exact .tail _ (.head _)), trivial⟩) ?_
  repeat' first
    | refine s_move (by exact rfl) (by exact rfl) ?_ | refine s_pick_t (by exact rfl) (by exact rfl) (by exact rfl) ?_ | (refine g_case (by exact rfl) (by exact rfl) (fun h => ?_) (fun h => ?_) <;> try (exfalso; omega)) | refine w_move (by exact rfl) (by exact rfl) (by exact rfl) (by exact rfl) ?_ | refine w_eql (by exact rfl) (by exact rfl) (by exact rfl) (by exact rfl) (by exact rfl) ?_ | refine g_on (by exact rfl) (by exact rfl) ?_ | fail
  all_goals try (exfalso; omega)
  refine s_call (vs := [chV (kdV 6) [⟨nb, lnB, 2⟩], .string lnB]) (by exact rfl) (by exact rfl) (fun w h => Place_ok 6 [⟨nb, lnB, 2⟩] lnB w ⟨rb_own h (by exact .tail _ (.head _)), trivial⟩) ?_
  rw [show placeL lnB (ndOf [⟨nb, lnB, 2⟩]) = 2 by show (if lnB.toList == lnB.toList then (2 : Int) else _) = 2; rw [beq_self_eq_true]; rfl]
  repeat' first
    | refine k_then ?_ | refine s_nil ?_ | refine s_assign (by exact rfl) (by exact rfl) ?_ | refine s_pick_t (by exact rfl) (by exact rfl) (by exact rfl) ?_ | refine c_ret ?_ | refine w_eql (by exact rfl) (by exact rfl) (by exact rfl) (by exact rfl) (by exact rfl) ?_ | fail
  all_goals try (exfalso; omega)
  exact ret1 [] rfl rfl rfl ⟨rfl, rfl⟩
end Go.Proofs.YtllkoinbfegonaaDoor
end
section
set_option linter.unusedVariables false
namespace Go.Proofs.YtllkoinbfegonaaDoor
open Go Go.RowKit Go.Sl Go.Num
set_option maxRecDepth 100000
set_option maxHeartbeats 8000000
set_option linter.unusedVariables false
set_option linter.unusedSimpArgs false
attribute [local irreducible] Code.wp wpList bodyPost wpQuiet Exit.then Exit.inBlock Post wpAnyH wpOp
theorem TextNumbers_ok (s : ByteArray) (w : World) (hz : s.size ≤ 140737488351232) (hM : MX w No) (hg : RC w No 0 (rT 27)) : Calls Tryd.prog 6 #[.string s] w (Post w No (Just (.bool true))) := by
  refine enter0 (vs := [_]) Tryd.func6 rfl Tryd.ntmps6 rfl ?_
  have hv : ∃ a b : Int, numV (num (bytL s)) = .tuple #[.int .i64 a, .int .i64 b] := by
    unfold numV
    split <;> exact ⟨_, _, rfl⟩
  obtain ⟨a, b, hv⟩ := hv
  repeat' first
    | refine k_then ?_ | refine c_seq ?_ | refine c_region ?_ | refine s_nil ?_ | refine s_move (by exact rfl) (by exact rfl) ?_ | refine s_assign (by exact rfl) (by exact rfl) ?_ | fail
  refine s_call (vs := [.string s]) (by exact rfl) (by exact rfl) (fun w h => Number_ok s w hz) ?_
  rw [hv]
  repeat' first
    | refine k_then ?_ | refine c_seq ?_ | refine c_region ?_ | refine s_nil ?_ | refine s_move (by exact rfl) (by exact rfl) ?_ | refine s_assign (by exact rfl) (by exact rfl) ?_ | refine s_extract (by exact rfl) (by exact rfl) (by exact rfl) ?_ | fail
  refine s_call (vs := [.string s]) (by exact rfl) (by exact rfl) (fun w h => RefNumber_ok s w hz) ?_
  rw [hv]
  repeat' first
    | refine k_then ?_ | refine c_seq ?_ | refine c_region ?_ | refine s_nil ?_ | refine s_move (by exact rfl) (by exact rfl) ?_ | refine s_assign (by exact rfl) (by exact rfl) ?_ | refine s_eql (by exact rfl) (by exact rfl) (by exact rfl) ?_ | refine s_extract (by exact rfl) (by exact rfl) (by exact rfl) ?_ | refine s_pick_t (by exact rfl) (by exact rfl) (by exact rfl) ?_ | (refine g_case (by exact rfl) (by exact rfl) (fun h => ?_) (fun h => ?_) <;> try (exfalso; omega)) | refine w_move (by exact rfl) (by exact rfl) (by exact rfl) (by exact rfl) ?_ | refine w_eql (by exact rfl) (by exact rfl) (by exact rfl) (by exact rfl) (by exact rfl) ?_ | refine g_on (by exact rfl) (by exact rfl) ?_ | fail
  refine s_call (vs := []) (by exact rfl) (by exact rfl) (fun w h => alive05_ok w (hM.old h) (hg.old h)) ?_
  repeat' first
    | refine k_then ?_ | refine s_nil ?_ | refine s_assign (by exact rfl) (by exact rfl) ?_ | refine s_pick_t (by exact rfl) (by exact rfl) (by exact rfl) ?_ | refine c_ret ?_ | fail
  exact ret1 [] rfl rfl rfl ⟨rfl, rfl⟩
end Go.Proofs.YtllkoinbfegonaaDoor
end
section
set_option linter.unusedVariables false
namespace Go.Proofs
open Go.Shelf
end Go.Proofs
namespace Go.Proofs.YtllkoinbfegonaaDoor
open Go Go.RowKit Go.Sl Go.Stop Go.Extern.Stop Go.Extern
theorem mod_grow (w : World) (k : Nat) (xs : Array Obj) : Mod w No (_root_.Go.Sort.grow (w.drewN k) xs) No :=
  ⟨rfl, rfl, rfl, Nat.le_add_right _ _, by show _ ≤ (w.heap ++ xs).size; simp, fun i hi _ => by
    show (w.heap ++ xs)[i]? = _
    rw [Array.getElem?_append_left hi], fun i h => h.elim⟩
/-- the table of powers, where it is read -/
def RT (w : World) (S : FS) : Prop := ∀ w' S', Mod w S w' S' → Lib.TabIs Tryd.prog w' "internal/strconv.uint64pow10" .u64 Lib.pow10Tab
theorem RT.old {w0 w : World} {S0 : FS} {L : List HP} (hs : St w0 S0 L w) (hr : RT w0 S0) : RT w No := by
  intro w' S' hm
  obtain ⟨S, hm0, _⟩ := hs
  exact hr w' (fun k => S k ∨ S' k) (hm0.trans ⟨hm.os, hm.tape, hm.output, hm.drawn, hm.size, fun k hk _ => hm.keep k hk (fun h => h), fun k hk => hk.imp id (fun h => (hm.new k h).elim (fun h => h.elim) id)⟩)
set_option maxRecDepth 100000
set_option maxHeartbeats 8000000
set_option linter.unusedVariables false
set_option linter.unusedSimpArgs false
attribute [local irreducible] Code.wp wpList bodyPost wpQuiet Exit.then Exit.inBlock Post wpAnyH wpOp
end Go.Proofs.YtllkoinbfegonaaDoor
end
section
set_option linter.unusedVariables false
namespace Go.Proofs.YtllkoinbfegonaaDoor
open Go Go.RowKit Go.Sl
set_option maxRecDepth 100000
set_option maxHeartbeats 8000000
set_option linter.unusedVariables false
set_option linter.unusedSimpArgs false
attribute [local irreducible] Code.wp wpList bodyPost wpQuiet Exit.then Exit.inBlock Post wpAnyH wpOp
end Go.Proofs.YtllkoinbfegonaaDoor
end
section
set_option linter.unusedVariables false
namespace Go.Proofs.YtllkoinbfegonaaDoor
open Go Go.RowKit Go.Sl
set_option maxRecDepth 100000
set_option maxHeartbeats 8000000
set_option linter.unusedVariables false
set_option linter.unusedSimpArgs false
attribute [local irreducible] Code.wp wpList bodyPost wpQuiet Exit.then Exit.inBlock Post wpAnyH wpOp
end Go.Proofs.YtllkoinbfegonaaDoor
end
section
set_option linter.unusedVariables false
namespace Go.Proofs.YtllkoinbfegonaaDoor
open Go Go.RowKit Go.Sl
set_option maxRecDepth 100000
set_option maxHeartbeats 8000000
set_option linter.unusedVariables false
set_option linter.unusedSimpArgs false
attribute [local irreducible] Code.wp wpList bodyPost wpQuiet Exit.then Exit.inBlock Post wpAnyH wpOp
end Go.Proofs.YtllkoinbfegonaaDoor
end
section
set_option linter.unusedVariables false
namespace Go.Proofs.YtllkoinbfegonaaDoor
open Go Go.RowKit Go.Sl
set_option maxRecDepth 100000
set_option maxHeartbeats 8000000
set_option linter.unusedVariables false
set_option linter.unusedSimpArgs false
attribute [local irreducible] Code.wp wpList bodyPost wpQuiet Exit.then Exit.inBlock Post wpAnyH wpOp
end Go.Proofs.YtllkoinbfegonaaDoor
end
section
set_option linter.unusedVariables false
namespace Go.Proofs.YtllkoinbfegonaaDoor
open Go Go.RowKit Go.Sl
set_option maxRecDepth 100000
set_option maxHeartbeats 8000000
set_option linter.unusedVariables false
set_option linter.unusedSimpArgs false
attribute [local irreducible] Code.wp wpList bodyPost wpQuiet Exit.then Exit.inBlock Post wpAnyH wpOp
end Go.Proofs.YtllkoinbfegonaaDoor
end
section
set_option linter.unusedVariables false
namespace Go.Sl
open Go Go.RowKit
end Go.Sl
namespace Go.Proofs.YtllkoinbfegonaaDoor
open Go Go.RowKit Go.Sl
set_option maxRecDepth 100000
set_option maxHeartbeats 8000000
set_option linter.unusedVariables false
set_option linter.unusedSimpArgs false
attribute [local irreducible] Code.wp wpList bodyPost wpQuiet Exit.then Exit.inBlock Post wpAnyH wpOp
instance : BoTy Tryd.prog 4 := ⟨Tryd.underlying4⟩
end Go.Proofs.YtllkoinbfegonaaDoor
end
section
namespace Go.Proofs.YtllkoinbfegonaaDoor
open Go.ChangeShapes Go.WideShapes Go.ChangeAt Go.RowKit Go.Joins Go.Deep Go.Sl
set_option maxRecDepth 100000
set_option linter.unusedVariables false
set_option linter.unusedSimpArgs false
theorem row_own : ownKnob Tryd.prog.godebug = none := by kernel_rfl
theorem row_laid : laidOutB Tryd.prog = true := by kernel_rfl
section
variable {H : Type} {enc : TypeId × Value → H}
end
end Go.Proofs.YtllkoinbfegonaaDoor
end
section
namespace Go.Sl
open Go
theorem returnsInHanded_of_change_and_shaped {H : Type} {enc : TypeId × Value → H} {a : Assume} {C : Checked} {os : Os} {f : FuncId} {fn : Func} {s : ChangeSpec} {conds : List PathCond} {apart fresh handsOn again : Bool} {X : World → Array Value → Prop}
    (hX : ∀ (w w' : World) (args : Array Value), w.heap = w'.heap → X w args → X w' args)
    (own : ownKnob C.prog.godebug = none) (started : os.Started) (noInit : C.prog.inits.idxOf? f = none) (hfn : C.prog.funcs[f]? = some fn)
    (witness : ∃ (w : World) (tape : Tape) (i : Input), w.os = os ∧ (w.forCall tape i).Shaped C.prog ∧ i.vars = [] ∧ Input.okWide C.prog (w.forCall tape i) .any w.heap.size f i ∧
      ((s.pre enc C.prog fn conds apart (w.forCall tape i).memory i.args ∧ X (w.forCall tape i).memory i.args) ∧ sizedMet enc C.prog fn (OpenSpec.ofChange s) apart (w.forCall tape i).memory i.args) ∧ a.holds C.prog (lone (Frame.enter C.prog f i.args .normal) [] (w.forCall tape i)))
    (contract : ∀ (W : World) (base : Nat) (args : Array Value) (ds gs : List (DataW H)) (before : List MemPlace),
      (∀ (j : Nat) t v, fn.params[j]? = some t → args[j]? = some v → Value.okWide C.prog W .any base t v) →
      DataW.Whole enc C.prog fn.params.toList s.vars apart W args.toList ds gs before →
      conds.all (PathCond.test C.prog ⟨fn.params.toList, ds, s.plain.varTypes C.prog, gs⟩) = true →
      (DataW.weightsEach C.prog (fn.params.toList ++ s.plain.varTypes C.prog) (ds ++ gs)).all (· ≤ reachBytes) = true → X W args → W.ShapedOpen C.prog →
      Calls C.prog f args W fun e W' => ∃ v, e = .returned v ∧ s.post enc C.prog fn apart fresh handsOn again W args v W') :
    ReturnsInHanded a C os f .any (fun w args => (s.pre enc C.prog fn conds apart w args ∧ X w args) ∧ sizedMet enc C.prog fn (OpenSpec.ofChange s) apart w args) (s.post enc C.prog fn apart fresh handsOn again) := by
  refine returnsInHanded_of_calls own started noInit witness ?_
  intro w tape i _ hsh _ hok hpre hholds
  obtain ⟨_, _, _, fn', hfn', _, _, _, _, hval⟩ := hok
  have e : fn' = fn := Option.some.inj (hfn'.symm.trans hfn)
  subst e
  obtain ⟨⟨⟨ds, gs, before, hw, hc⟩, hx⟩, hz⟩ := hpre
  have hw' := DataW.Whole.of_heap (w' := w.forCall tape i) (by rfl) hw
  refine (contract (w.forCall tape i) w.heap.size i.args ds gs before hval hw' hc (hz.weights hw) (hX _ _ _ (by rfl) hx) hsh).mono fun e W' ⟨v, he, hp⟩ => ?_
  subst he
  exact ChangeSpec.post_blind hp
end Go.Sl
namespace Go.Proofs.YtllkoinbfegonaaDoor
open Go Go.ChangeShapes Go.WideShapes Go.RowKit Go.Sl Go.Lib
set_option maxRecDepth 100000
set_option linter.unusedVariables false
theorem et5 : Tryd.prog.globalNamed "errors.errorType" = some 0 := by kernel_rfl
theorem rtN5 : (Tryd.prog.cutTypes.find? (·.1 == "internal/reflectlite.rtype")).map (·.2) = some 108 := by kernel_rfl
theorem oneRow5 : ((List.range Tryd.prog.types.size).filter fun t => Tryd.prog.rowNamed t [101, 114, 114, 111, 114]) = [27] := by kernel_rfl
theorem handle5 {W : World} (h : handlesMet Tryd.prog [("errors.errorType", Rows.laid_errors_errorType)] W) : W.cell? ⟨0, 0, none⟩ = some (rT 27) := by
  obtain ⟨name, u, ty, e1, e2, e3, e4, e5⟩ := h _ (List.mem_singleton.2 rfl)
  have en : name = [101, 114, 114, 111, 114] := (Option.some.inj e1).symm
  subst en
  obtain rfl := Option.some.inj (rtN5.symm.trans e2)
  have hm : ty ∈ (List.range Tryd.prog.types.size).filter fun t => Tryd.prog.rowNamed t [101, 114, 114, 111, 114] := List.mem_filter.2 ⟨List.mem_range.2 e3, e4⟩
  rw [oneRow5] at hm
  obtain rfl := List.mem_singleton.1 hm
  simpa using World.var?_cell et5 e5 0
theorem mx_of {W : World} (h : W.ShapedOpen Tryd.prog) : MX W No := fun w' S' hm => by
  obtain ⟨m, e⟩ := cell_of_shapedOpen_int h (g := 2) (t := 3) (zero := #[.int .i64 0]) (k := .i64) (of_decide_eq_true (by kernel_rfl)) (by kernel_rfl) rfl (by kernel_rfl) (by kernel_rfl) Tryd.underlying3
  exact ⟨m, by rw [hm.below.cell (p := ⟨2, 0, none⟩) (World.block_lt_of_cell? W _ e)]; exact e⟩
theorem rc5_of {W : World} {b : Nat} {v : Value} (h : W.cell? ⟨b, 0, none⟩ = some v) : RC W No b v := fun w' S' hm => by
  rw [hm.below.cell (p := ⟨b, 0, none⟩) (World.block_lt_of_cell? W _ h)]; exact h
def flatD : Nat → DataW Unit → List Value
  | 0, _ => []
  | k + 1, .agg l => l.flatMap (flatD k)
  | _, .lit (.int k n) => [.int k n]
  | _, _ => [undef]
noncomputable def putG5 (w : World) (g : Nat) (cs : Array Value) : World := { w with heap := w.heap.modify g fun | .cells _ t frozen => .cells cs t frozen | o => o }
noncomputable def laidWorld5 (os : Os) : World :=
  putG5 (putG5 (putG5 (World.holding Tryd.prog os ⟨#[], #[], []⟩) 0 #[rT 27]) 6 (flatD 4 Rows.laid_unicode_utf8_acceptRanges).toArray) 5 (flatD 4 Rows.laid_unicode_utf8_first).toArray
abbrev laidL5 : List (String × DataW Unit) := [("unicode/utf8.acceptRanges", Rows.laid_unicode_utf8_acceptRanges), ("errors.errorType", Rows.laid_errors_errorType), ("unicode/utf8.first", Rows.laid_unicode_utf8_first)]
theorem cell5 {W : World} (h : laidMetH Tryd.prog laidL5 W) : W.cell? ⟨0, 0, none⟩ = some (rT 27) := by
  have h2 : laidMet Tryd.prog [("unicode/utf8.acceptRanges", Rows.laid_unicode_utf8_acceptRanges), ("unicode/utf8.first", Rows.laid_unicode_utf8_first)] W ∧ handlesMet Tryd.prog [("errors.errorType", Rows.laid_errors_errorType)] W := h
  exact handle5 h2.2
theorem laidWorld5_met (os : Os) (args : Array Value) : laidMetH Tryd.prog laidL5 ((laidWorld5 os).forCall (fun _ _ => 0) ⟨#[], args, []⟩).memory :=
  laidMetH_of_parts (laidMet_of_run' 8 (by kernel_rfl) (by kernel_rfl)) (by kernel_rfl)
end Go.Proofs.YtllkoinbfegonaaDoor
end
