/- Of FaultNils: part 2: what the walks rest on, contracts of functions and plain lemmas; no condition but those that each states. -/
import Derived.Test.YtllkoinbfegonaaDoorFn1
import Derived.Shelf.Strconv.Itoa3
import Derived.Shelf.SlGeneric
import Derived.Laws.BytesArg
import Derived.Laws.Shifts
import Derived.ProofKit
import Derived.Deep.Slices
import Derived.Deep.Strs
import Derived.ChangeSame
import Derived.Lib.SmallJoins
import Derived.Test.YtllkoinbfegonaaDoorRows
import Derived.ChangeVars
import Derived.JoinedOf
import Derived.LaidLaws
import Derived.LaidHandle
import Derived.Lib.LaidTab
import Derived.Stop.Joined
import Derived.WalkSmall
set_option linter.unusedVariables false
set_option linter.unusedSimpArgs false
section
set_option linter.unusedVariables false
namespace Go.Proofs.YtllkoinbfegonaaDoor
open Go Go.RowKit Go.Sl Go.Stop Go.Extern.Stop Go.Extern
set_option maxRecDepth 100000
set_option maxHeartbeats 8000000
set_option linter.unusedVariables false
set_option linter.unusedSimpArgs false
attribute [local irreducible] Code.wp wpList bodyPost wpQuiet Exit.then Exit.inBlock Post wpAnyH wpOp
theorem ChR.lent {w0 w : World} {S0 S : FS} {L0 Lr : List HP} {bv : Value} (hs : Lent w0 S0 L0 Lr S w) : ∀ {r : List Nd}, ChR w0 S0 bv r → ChR w S bv r
  | [], _ => trivial
  | _ :: _, ⟨h, h2⟩ => ⟨hs.rb_old h, h2.lent hs⟩
theorem cTypePK (a : Nat) (w : World) : (callFunc 31 (List.toArray [.agg #[hd 79, .pointer (some ⟨a, 0, none⟩), .int .u64 150]])).run Tryd.prog w = .ok (.value (rT 79)) w := by
  rw [callVType]
  exact congrArg (fun z => Result.andThen z fun v w' => Result.ok (Next.value v) w') (yPK ⟨a, 0, none⟩ w)
theorem cTypePF (a : Nat) (w : World) : (callFunc 31 (List.toArray [.agg #[hd 31, .pointer (some ⟨a, 0, none⟩), .int .u64 150]])).run Tryd.prog w = .ok (.value (rT 31)) w := by
  rw [callVType]
  exact congrArg (fun z => Result.andThen z fun v w' => Result.ok (Next.value v) w') (yPF ⟨a, 0, none⟩ w)
theorem cNilPK (a p : Nat) (w : World) (ha : w.cell? ⟨a, 0, none⟩ = some (.pointer (some ⟨p, 0, none⟩))) : (callFunc 32 (List.toArray [.agg #[hd 79, .pointer (some ⟨a, 0, none⟩), .int .u64 150]])).run Tryd.prog w = .ok (.value (.bool false)) w := by
  rw [callIsNil]
  exact congrArg (fun z => Result.andThen z fun v w' => Result.ok (Next.value v) w') (isNilP ⟨a, 0, none⟩ _ w ha)
theorem cNilPF (a p : Nat) (w : World) (ha : w.cell? ⟨a, 0, none⟩ = some (.pointer (some ⟨p, 0, none⟩))) : (callFunc 32 (List.toArray [.agg #[hd 31, .pointer (some ⟨a, 0, none⟩), .int .u64 150]])).run Tryd.prog w = .ok (.value (.bool false)) w := by
  rw [callIsNil]
  exact congrArg (fun z => Result.andThen z fun v w' => Result.ok (Next.value v) w') (isNilF ⟨a, 0, none⟩ _ w ha)
theorem iKind (t : TypeId) (k : Int) (h : ∀ w, ((ReflectliteType.abiMethod fun t => (fun a : Nat => Value.int IntKind.u8 (a : Int)) <$> Rtype.kind t) #[hd t]).run Tryd.prog w = .ok (.int .u8 k) w) (w : World) : (callMethod (rT t) "Kind" (List.toArray [])).run Tryd.prog w = .ok (.value (.int .u8 k)) w := by
  rw [run_callMethod (mKind _), callKind]
  exact congrArg (fun z => Result.andThen z fun v w' => Result.ok (Next.value v) w') (h w)
theorem iElem (t u : TypeId) (h : ∀ w, (ReflectliteType.method ReflectliteType.elem #[.agg #[hd t]]).run Tryd.prog w = .ok (rT u) w) (w : World) : (callMethod (rT t) "Elem" (List.toArray [])).run Tryd.prog w = .ok (.value (rT u)) w := by
  rw [run_callMethod (mElem _), callTElem]
  exact congrArg (fun z => Result.andThen z fun v w' => Result.ok (Next.value v) w') (h w)
theorem iImpl (t u : TypeId) (b : Bool) (h : ∀ w, (ReflectliteType.relation "Implements" ReflectliteType.implements_ #[.agg #[hd t], rT u]).run Tryd.prog w = .ok (.bool b) w) (w : World) : (callMethod (rT t) "Implements" (List.toArray [rT u])).run Tryd.prog w = .ok (.value (.bool b)) w := by
  rw [run_callMethod (mImpl _), callImpl]
  exact congrArg (fun z => Result.andThen z fun v w' => Result.ok (Next.value v) w') (h w)
theorem AsK_ok (k : Int) (r : List Nd) (tb : Nat) (old : Value) (w : World) (S : FS) (hg : RC w S 0 (rT 27)) (hr : ChR w S (.iface 23 (.int .i64 k)) r) (hs : sats [boxHP tb 23 [old]] S w) :
    Calls Tryd.prog 11 #[chV (.iface 23 (.int .i64 k)) r, .iface 79 (.pointer (some ⟨tb, 0, none⟩))] w
      (Post w S fun u L' => u = .bool true ∧ L' = [boxHP tb 23 [.int .i64 k]]) := by
  obtain ⟨tt, uu, e⟩ := chV_if (bv := .iface 23 (.int .i64 k)) ⟨_, _, rfl⟩ r
  refine enter (vs := [_, _]) Tryd.func11 rfl Tryd.ntmps11 rfl hs ?_
  repeat' first
    | refine k_then ?_ | refine c_seq ?_ | refine c_region ?_ | refine s_nil ?_ | refine s_move (by exact rfl) (by exact rfl) ?_ | refine s_assign (by exact rfl) (by exact rfl) ?_ | fail
  refine s_q rfl rfl (by exact rfl) (q_nil_f rfl (by exact congrArg some e)).q ?_
  repeat' first
    | refine k_then ?_ | refine c_seq ?_ | refine c_region ?_ | refine s_nil ?_ | refine s_move (by exact rfl) (by exact rfl) ?_ | refine c_skip ?_ | refine c_cond_f (by exact rfl) ?_ | refine s_q rfl rfl (by exact rfl) (q_nil_f rfl (by exact rfl)).q ?_ | fail
  refine o_ext (g := fun b => .agg #[hd 79, .pointer (some ⟨b, 0, none⟩), .int .u64 150]) (fun w _ => cValPK tb w) (by exact rfl) (by exact rfl) (fun vb => ?_)
  repeat' first
    | refine o_alloc (by exact rfl) (fun b => ?_) | fail
  refine o_stk_box (i := 0) (us := [hd 79, .pointer (some ⟨vb, 0, none⟩), .int .u64 150]) (by exact rfl) (by exact rfl) (by exact rfl) (by exact rfl) (by exact rfl) (by
    intro u hu
    simp only [List.mem_cons, List.mem_nil_iff, or_false] at hu
    rcases hu with rfl | rfl | rfl <;> rfl) (by decide) ?_
  repeat' first
    | refine k_then ?_ | refine c_seq ?_ | refine c_region ?_ | refine s_nil ?_ | refine s_ldk_box (by exact rfl) (by exact rfl) (by exact .head _) (by exact rfl) (by exact rfl) ?_ | fail
  refine s_q rfl rfl (by exact rfl) (q_ext (fun w _ => cTypePK vb w) rfl (by exact rfl)).q ?_
  repeat' first
    | refine k_then ?_ | refine c_seq ?_ | refine c_region ?_ | refine s_nil ?_ | refine s_move (by exact rfl) (by exact rfl) ?_ | refine s_assign (by exact rfl) (by exact rfl) ?_ | fail
  refine s_q rfl rfl (by exact rfl) (q_inv (iKind _ _ kPK) rfl (by exact rfl) (by exact rfl)).q ?_
  repeat' first
    | refine s_move (by exact rfl) (by exact rfl) ?_ | refine s_neq (by exact rfl) (by exact rfl) (by exact rfl) ?_ | (refine g_case (by exact rfl) (by exact rfl) (fun h => ?_) (fun h => ?_) <;> try (exfalso; omega)) | refine w_ldk_box (by exact rfl) (by exact rfl) (by exact rfl) (by exact rfl) (by exact .head _) (by exact rfl) (by exact rfl) ?_ | refine g_on (by exact rfl) (by exact rfl) ?_ | fail
  refine s_q rfl rfl (by exact rfl) (q_ext (fun w h => cNilPK vb tb w (box_cell h (.tail _ (.head _)) rfl).1) rfl (by exact rfl)).q ?_
  repeat' first
    | refine k_then ?_ | refine c_seq ?_ | refine c_region ?_ | refine s_nil ?_ | refine s_move (by exact rfl) (by exact rfl) ?_ | refine s_pick_f (by exact rfl) (by exact rfl) (by exact rfl) ?_ | refine c_skip ?_ | refine c_cond_f (by exact rfl) ?_ | fail
  refine s_q rfl rfl (by exact rfl) (q_inv (iElem _ _ eK) rfl (by exact rfl) (by exact rfl)).q ?_
  repeat' first
    | refine k_then ?_ | refine c_seq ?_ | refine c_region ?_ | refine s_nil ?_ | refine s_move (by exact rfl) (by exact rfl) ?_ | refine s_assign (by exact rfl) (by exact rfl) ?_ | fail
  refine s_q rfl rfl (by exact rfl) (q_inv (iKind _ _ kK) rfl (by exact rfl) (by exact rfl)).q ?_
  repeat' first
    | refine s_move (by exact rfl) (by exact rfl) ?_ | refine s_neq (by exact rfl) (by exact rfl) (by exact rfl) ?_ | (refine g_case (by exact rfl) (by exact rfl) (fun h => ?_) (fun h => ?_) <;> try (exfalso; omega)) | refine w_move (by exact rfl) (by exact rfl) (by exact rfl) (by exact rfl) ?_ | refine g_on (by exact rfl) (by exact rfl) ?_ | fail
  refine s_q rfl rfl (by exact rfl) (q_ld_rc hg rfl (by exact rfl)).q ?_
  repeat' first
    | refine g_on (by exact rfl) (by exact rfl) ?_ | fail
  refine s_q rfl rfl (by exact rfl) (q_inv (iImpl _ _ _ iK) rfl (by exact rfl) (by exact rfl)).q ?_
  repeat' first
    | refine k_then ?_ | refine c_seq ?_ | refine c_region ?_ | refine s_nil ?_ | refine s_move (by exact rfl) (by exact rfl) ?_ | refine s_pick_t (by exact rfl) (by exact rfl) (by exact rfl) ?_ | refine s_ldk_box (by exact rfl) (by exact rfl) (by exact .head _) (by exact rfl) (by exact rfl) ?_ | refine c_skip ?_ | refine c_cond_f (by exact rfl) ?_ | refine w_not (by exact rfl) (by exact rfl) (by exact rfl) (by exact rfl) ?_ | fail
  refine c_pick [2, 0, 0] (by exact rfl) ?_
  refine s_lend [boxHP tb 23 [old]] _ (by exact rfl) (by exact rfl) (by exact rfl) (fun w S h => asK_ok k r tb vb old w S (hr.lent h) (h.rb_own (.tail _ (.head _))) h.own) ?_
  rintro u L' ⟨rfl, rfl⟩
  repeat' first
    | refine k_then ?_ | refine s_nil ?_ | refine s_assign (by exact rfl) (by exact rfl) ?_ | refine c_ret ?_ | fail
  refine ret1 [0] rfl rfl rfl ⟨rfl, rfl⟩
theorem asF_ok (bv : Value) (x : Nd) (r : List Nd) (tb vb : Nat) (old : Value) (w : World) (S : FS) (hv : RB w S vb 31 [.pointer (some ⟨tb, 0, none⟩)]) (hs : sats [boxHP tb 29 [old]] S w) :
    Calls Tryd.prog 33 #[chV bv (x :: r), .iface 31 (.pointer (some ⟨tb, 0, none⟩)), .agg #[hd 31, .pointer (some ⟨vb, 0, none⟩), .int .u64 150], rT 29] w
      (Post w S fun u L' => u = .bool true ∧ L' = [boxHP tb 29 [.pointer (some ⟨x.b, 0, none⟩)]]) := by
  refine enter (vs := [.iface 29 (.pointer (some ⟨x.b, 0, none⟩)), _, _, _]) Tryd.func33 rfl Tryd.ntmps33 rfl hs ?_
  repeat' first
    | refine k_then ?_ | refine c_seq ?_ | refine c_region ?_ | refine s_nil ?_ | refine s_assign (by exact rfl) (by exact rfl) ?_ | refine o_box (by exact rfl) (by exact rfl) (fun b => ?_) | refine c_block ?_ | fail
  refine c_loop (fun _ : Unit => True) (fun _ => [(0, .iface 29 (.pointer (some ⟨x.b, 0, none⟩))), (1, .iface 31 (.pointer (some ⟨tb, 0, none⟩))), (3, rT 29), (6, .pointer (some ⟨b, 0, none⟩))]) (fun _ => [boxHP b 70 [hd 31, .pointer (some ⟨vb, 0, none⟩), .int .u64 150], boxHP tb 29 [old]]) (fun _ => 0) () [0, 0] trivial rfl ⟨rfl, rfl, rfl, rfl, trivial⟩ ?_
  intro _ _
  repeat' first
    | refine c_seq ?_ | refine c_region ?_ | refine s_move (by exact rfl) (by exact rfl) ?_ | refine c_block ?_ | fail
  refine s_q rfl rfl (by exact rfl) (q_ext (fun w _ => cTypeOf _ _ (tF _) w) rfl (by exact rfl)).q ?_
  repeat' first
    | refine s_move (by exact rfl) (by exact rfl) ?_ | fail
  refine s_q rfl rfl (by exact rfl) (q_inv (fun w => iAssi _ _ _ aFF w) rfl (by exact rfl) (by exact rfl)).q ?_
  repeat' first
    | refine k_then ?_ | refine c_seq ?_ | refine c_region ?_ | refine s_nil ?_ | refine s_ldk_box (by exact rfl) (by exact rfl) (by exact .head _) (by exact rfl) (by exact rfl) ?_ | refine c_cond_t (by exact rfl) ?_ | fail
  refine s_q rfl rfl (by exact rfl) (q_ext (fun w h => cElemF vb tb w (rb_cell h hv rfl)) rfl (by exact rfl)).q ?_
  repeat' first
    | refine s_move (by exact rfl) (by exact rfl) ?_ | fail
  refine o_ext (g := fun b => .agg #[hd 29, .pointer (some ⟨b, 0, none⟩), .int .u64 150]) (fun w _ => cValF x.b w) (by exact rfl) (by exact rfl) (fun kb => ?_)
  skip
  refine o_extset (i := 2) rfl (fun w h => cSetF tb kb x.b old w (box_cell h (.head _) rfl).1 (box_cell h (.tail _ (.tail _ (.head _))) rfl)) (by exact rfl) (by exact rfl) ?_
  repeat' first
    | refine k_then ?_ | refine c_seq ?_ | refine c_region ?_ | refine s_nil ?_ | refine s_assign (by exact rfl) (by exact rfl) ?_ | refine c_ret ?_ | refine k_then_ret ?_ | refine k_blk_ret ?_ | fail
  refine ret1 [2] rfl rfl rfl ⟨rfl, rfl⟩
theorem AsF_ok (bv : Value) (x : Nd) (r : List Nd) (tb : Nat) (old : Value) (w : World) (S : FS) (hg : RC w S 0 (rT 27)) (hs : sats [boxHP tb 29 [old]] S w) :
    Calls Tryd.prog 11 #[chV bv (x :: r), .iface 31 (.pointer (some ⟨tb, 0, none⟩))] w
      (Post w S fun u L' => u = .bool true ∧ L' = [boxHP tb 29 [.pointer (some ⟨x.b, 0, none⟩)]]) := by
  refine enter (vs := [.iface 29 (.pointer (some ⟨x.b, 0, none⟩)), _]) Tryd.func11 rfl Tryd.ntmps11 rfl hs ?_
  repeat' first
    | refine k_then ?_ | refine c_seq ?_ | refine c_region ?_ | refine s_nil ?_ | refine s_move (by exact rfl) (by exact rfl) ?_ | refine s_assign (by exact rfl) (by exact rfl) ?_ | refine c_skip ?_ | refine c_cond_f (by exact rfl) ?_ | refine s_q rfl rfl (by exact rfl) (q_nil_f rfl (by exact rfl)).q ?_ | fail
  refine o_ext (g := fun b => .agg #[hd 31, .pointer (some ⟨b, 0, none⟩), .int .u64 150]) (fun w _ => cValPF tb w) (by exact rfl) (by exact rfl) (fun vb => ?_)
  repeat' first
    | refine o_alloc (by exact rfl) (fun b => ?_) | fail
  refine o_stk_box (i := 0) (us := [hd 31, .pointer (some ⟨vb, 0, none⟩), .int .u64 150]) (by exact rfl) (by exact rfl) (by exact rfl) (by exact rfl) (by exact rfl) (by
    intro u hu
    simp only [List.mem_cons, List.mem_nil_iff, or_false] at hu
    rcases hu with rfl | rfl | rfl <;> rfl) (by decide) ?_
  repeat' first
    | refine k_then ?_ | refine c_seq ?_ | refine c_region ?_ | refine s_nil ?_ | refine s_ldk_box (by exact rfl) (by exact rfl) (by exact .head _) (by exact rfl) (by exact rfl) ?_ | fail
  refine s_q rfl rfl (by exact rfl) (q_ext (fun w _ => cTypePF vb w) rfl (by exact rfl)).q ?_
  repeat' first
    | refine k_then ?_ | refine c_seq ?_ | refine c_region ?_ | refine s_nil ?_ | refine s_move (by exact rfl) (by exact rfl) ?_ | refine s_assign (by exact rfl) (by exact rfl) ?_ | fail
  refine s_q rfl rfl (by exact rfl) (q_inv (iKind _ _ kPF) rfl (by exact rfl) (by exact rfl)).q ?_
  repeat' first
    | refine s_move (by exact rfl) (by exact rfl) ?_ | refine s_neq (by exact rfl) (by exact rfl) (by exact rfl) ?_ | (refine g_case (by exact rfl) (by exact rfl) (fun h => ?_) (fun h => ?_) <;> try (exfalso; omega)) | refine w_ldk_box (by exact rfl) (by exact rfl) (by exact rfl) (by exact rfl) (by exact .head _) (by exact rfl) (by exact rfl) ?_ | refine g_on (by exact rfl) (by exact rfl) ?_ | fail
  refine s_q rfl rfl (by exact rfl) (q_ext (fun w h => cNilPF vb tb w (box_cell h (.tail _ (.head _)) rfl).1) rfl (by exact rfl)).q ?_
  repeat' first
    | refine k_then ?_ | refine c_seq ?_ | refine c_region ?_ | refine s_nil ?_ | refine s_move (by exact rfl) (by exact rfl) ?_ | refine s_pick_f (by exact rfl) (by exact rfl) (by exact rfl) ?_ | refine c_skip ?_ | refine c_cond_f (by exact rfl) ?_ | fail
  refine s_q rfl rfl (by exact rfl) (q_inv (iElem _ _ eF) rfl (by exact rfl) (by exact rfl)).q ?_
  repeat' first
    | refine k_then ?_ | refine c_seq ?_ | refine c_region ?_ | refine s_nil ?_ | refine s_move (by exact rfl) (by exact rfl) ?_ | refine s_assign (by exact rfl) (by exact rfl) ?_ | fail
  refine s_q rfl rfl (by exact rfl) (q_inv (iKind _ _ kF) rfl (by exact rfl) (by exact rfl)).q ?_
  repeat' first
    | refine s_move (by exact rfl) (by exact rfl) ?_ | refine s_neq (by exact rfl) (by exact rfl) (by exact rfl) ?_ | (refine g_case (by exact rfl) (by exact rfl) (fun h => ?_) (fun h => ?_) <;> try (exfalso; omega)) | refine w_move (by exact rfl) (by exact rfl) (by exact rfl) (by exact rfl) ?_ | refine g_on (by exact rfl) (by exact rfl) ?_ | fail
  refine s_q rfl rfl (by exact rfl) (q_ld_rc hg rfl (by exact rfl)).q ?_
  repeat' first
    | refine g_on (by exact rfl) (by exact rfl) ?_ | fail
  refine s_q rfl rfl (by exact rfl) (q_inv (iImpl _ _ _ iF) rfl (by exact rfl) (by exact rfl)).q ?_
  repeat' first
    | refine k_then ?_ | refine c_seq ?_ | refine c_region ?_ | refine s_nil ?_ | refine s_move (by exact rfl) (by exact rfl) ?_ | refine s_pick_t (by exact rfl) (by exact rfl) (by exact rfl) ?_ | refine s_ldk_box (by exact rfl) (by exact rfl) (by exact .head _) (by exact rfl) (by exact rfl) ?_ | refine c_skip ?_ | refine c_cond_f (by exact rfl) ?_ | refine w_not (by exact rfl) (by exact rfl) (by exact rfl) (by exact rfl) ?_ | fail
  refine c_pick [2, 0, 0] (by exact rfl) ?_
  refine s_lend [boxHP tb 29 [old]] _ (by exact rfl) (by exact rfl) (by exact rfl) (fun w S h => asF_ok bv x r tb vb old w S (h.rb_own (.tail _ (.head _))) h.own) ?_
  rintro u L' ⟨rfl, rfl⟩
  repeat' first
    | refine k_then ?_ | refine s_nil ?_ | refine s_assign (by exact rfl) (by exact rfl) ?_ | refine c_ret ?_ | fail
  refine ret1 [0] rfl rfl rfl ⟨rfl, rfl⟩
end Go.Proofs.YtllkoinbfegonaaDoor
end
section
set_option linter.unusedVariables false
namespace Go.Proofs.YtllkoinbfegonaaDoor
open Go Go.RowKit Go.Sl Go.Stop Go.Extern.Stop Go.Extern
set_option maxRecDepth 100000
set_option maxHeartbeats 8000000
set_option linter.unusedVariables false
set_option linter.unusedSimpArgs false
attribute [local irreducible] Code.wp wpList bodyPost wpQuiet Exit.then Exit.inBlock Post wpAnyH wpOp
theorem iComp (t : TypeId) (w : World) (h : ∀ w, (ReflectliteType.method (fun t => do Rtype.noPackHeld "Comparable" t; pure (.bool (← typeInfo t).comparable)) #[.agg #[hd t]]).run Tryd.prog w = .ok (.bool true) w) : (callMethod (rT t) "Comparable" (List.toArray [])).run Tryd.prog w = .ok (.value (.bool true)) w := by
  rw [run_callMethod (mComp _), callComp]
  exact congrArg (fun z => Result.andThen z fun v w' => Result.ok (Next.value v) w') (h w)
theorem FIsNil_ok (o : Int) (w : World) :
    Calls Tryd.prog 16 #[.nilIface, .int .i64 o] w (Post w No (Just (.bool (decide (o = 0))))) := by
  refine enter0 (vs := [_, _]) Tryd.func16 rfl Tryd.ntmps16 rfl ?_
  repeat' first
    | refine k_then ?_ | refine c_seq ?_ | refine c_region ?_ | refine s_nil ?_ | refine s_move (by exact rfl) (by exact rfl) ?_ | refine s_assign (by exact rfl) (by exact rfl) ?_ | refine s_pick_t (by exact rfl) (by exact rfl) (by exact rfl) ?_ | refine c_ret ?_ | refine k_then_ret ?_ | refine c_cond_t (by exact rfl) ?_ | refine g_skip (by exact rfl) (by exact rfl) (by exact rfl) (by exact rfl) ?_ | refine w_move (by exact rfl) (by exact rfl) (by exact rfl) (by exact rfl) ?_ | refine w_eql (by exact rfl) (by exact rfl) (by exact rfl) (by exact rfl) (by exact rfl) ?_ | refine s_q rfl rfl (by exact rfl) (q_nil_t rfl (by exact rfl)).q ?_ | fail
  exact ret1 [] rfl rfl rfl ⟨rfl, rfl⟩
theorem FOf_ok (k : Int) (r : List Nd) (w : World) (hg : RC w No 0 (rT 27)) (hr : ChR w No (.iface 23 (.int .i64 k)) r) :
    Calls Tryd.prog 15 #[chV (.iface 23 (.int .i64 k)) r] w (Post w No (Just (.int .i64 k))) := by
  obtain ⟨tt, uu, e⟩ := chV_if (bv := .iface 23 (.int .i64 k)) ⟨_, _, rfl⟩ r
  refine enter0 (vs := [_]) Tryd.func15 rfl Tryd.ntmps15 rfl ?_
  repeat' first
    | refine k_then ?_ | refine c_seq ?_ | refine c_region ?_ | refine s_nil ?_ | refine s_move (by exact rfl) (by exact rfl) ?_ | refine s_assign (by exact rfl) (by exact rfl) ?_ | fail
  refine s_q rfl rfl (by exact rfl) (q_nil_f rfl (by exact congrArg some e)).q ?_
  repeat' first
    | refine k_then ?_ | refine c_seq ?_ | refine c_region ?_ | refine s_nil ?_ | refine s_move (by exact rfl) (by exact rfl) ?_ | refine o_alloc (by exact rfl) (fun b => ?_) | refine c_skip ?_ | refine c_cond_f (by exact rfl) ?_ | refine s_q rfl rfl (by exact rfl) (q_iface rfl (by exact rfl)).q ?_ | fail
  refine s_lend [boxHP b 23 [.int .i64 0]] [] (by exact rfl) (by exact rfl) (by exact rfl) (fun w S h => AsK_ok k r b _ w S (hg.lent h) (hr.lent h) h.own) ?_
  rintro u L' ⟨rfl, rfl⟩
  repeat' first
    | refine k_then ?_ | refine c_seq ?_ | refine c_region ?_ | refine s_nil ?_ | refine s_assign (by exact rfl) (by exact rfl) ?_ | refine s_ld_box (by exact rfl) (by exact rfl) (by exact .head _) (by exact rfl) ?_ | refine c_ret ?_ | refine k_then_ret ?_ | refine c_cond_t (by exact rfl) ?_ | fail
  exact ret1 [] rfl rfl rfl ⟨rfl, rfl⟩
theorem FOfNil_ok (w : World) :
    Calls Tryd.prog 15 #[.nilIface] w (Post w No (Just (.int .i64 0))) := by
  refine enter0 (vs := [_]) Tryd.func15 rfl Tryd.ntmps15 rfl ?_
  repeat' first
    | refine k_then ?_ | refine c_seq ?_ | refine c_region ?_ | refine s_nil ?_ | refine s_move (by exact rfl) (by exact rfl) ?_ | refine s_assign (by exact rfl) (by exact rfl) ?_ | refine c_ret ?_ | refine k_then_ret ?_ | refine c_cond_t (by exact rfl) ?_ | refine s_q rfl rfl (by exact rfl) (q_nil_t rfl (by exact rfl)).q ?_ | fail
  exact ret1 [] rfl rfl rfl ⟨rfl, rfl⟩
end Go.Proofs.YtllkoinbfegonaaDoor
end
section
set_option linter.unusedVariables false
namespace Go.Proofs.YtllkoinbfegonaaDoor
open Go Go.RowKit Go.Sl Go.Stop Go.Extern.Stop Go.Extern
set_option maxRecDepth 100000
set_option maxHeartbeats 8000000
set_option linter.unusedVariables false
set_option linter.unusedSimpArgs false
attribute [local irreducible] Code.wp wpList bodyPost wpQuiet Exit.then Exit.inBlock Post wpAnyH wpOp
/-- a list of steps, cell by cell -/
abbrev Stp := ByteArray × Int
theorem WrapNil_ok (s : ByteArray) (i : Int) (w : World) : Calls Tryd.prog 19 #[.string s, .int .i64 i, .nilIface] w (Post w No (Just .nilIface)) := by
  refine enter0 (vs := [_, _, _]) Tryd.func19 rfl Tryd.ntmps19 rfl ?_
  repeat' first
    | refine k_then ?_ | refine c_seq ?_ | refine c_region ?_ | refine s_nil ?_ | refine s_move (by exact rfl) (by exact rfl) ?_ | refine s_assign (by exact rfl) (by exact rfl) ?_ | refine c_ret ?_ | refine k_then_ret ?_ | refine c_cond_t (by exact rfl) ?_ | refine s_q rfl rfl (by exact rfl) (q_nil_t rfl (by exact rfl)).q ?_ | fail
  exact ret1 [] rfl rfl rfl ⟨rfl, rfl⟩
theorem WrapOK_ok (s : ByteArray) (i : Int) (w : World) : Calls Tryd.prog 19 #[.string s, .int .i64 i, .iface 23 (.int .i64 0)] w (Post w No (Just .nilIface)) := by
  refine enter0 (vs := [_, _, _]) Tryd.func19 rfl Tryd.ntmps19 rfl ?_
  repeat' first
    | refine k_then ?_ | refine c_seq ?_ | refine c_region ?_ | refine s_nil ?_ | refine s_move (by exact rfl) (by exact rfl) ?_ | refine s_assign (by exact rfl) (by exact rfl) ?_ | refine c_skip ?_ | refine c_cond_f (by exact rfl) ?_ | refine s_q rfl rfl (by exact rfl) (q_nil_f rfl (by exact rfl)).q ?_ | fail
  refine s_q rfl rfl (by exact rfl) (q_assert (asKK _) rfl (by exact rfl)).q ?_
  repeat' first
    | refine k_then ?_ | refine c_seq ?_ | refine c_region ?_ | refine s_nil ?_ | refine s_move (by exact rfl) (by exact rfl) ?_ | refine s_assign (by exact rfl) (by exact rfl) ?_ | refine s_extract (by exact rfl) (by exact rfl) (by exact rfl) ?_ | refine s_pick_t (by exact rfl) (by exact rfl) (by exact rfl) ?_ | refine c_ret ?_ | refine k_then_ret ?_ | (refine c_cond_p (by exact rfl) (fun h => ?_) (fun h => ?_) <;> try (exfalso; omega)) | refine w_move (by exact rfl) (by exact rfl) (by exact rfl) (by exact rfl) ?_ | refine w_eql (by exact rfl) (by exact rfl) (by exact rfl) (by exact rfl) (by exact rfl) ?_ | fail
  exact ret1 [] rfl rfl rfl ⟨rfl, rfl⟩
/-- one more around a chain -/
def Wrapped (bv : Value) (r : List Nd) (s : ByteArray) (i : Int) (v : Value) (L : List HP) : Prop :=
  ∃ b, v = chV bv (⟨b, s, i⟩ :: r) ∧ L = [boxHP b 37 (ndC bv ⟨b, s, i⟩ r)]
theorem WrapK_ok (s : ByteArray) (i k : Int) (w : World) (hk : k ≠ 0) : Calls Tryd.prog 19 #[.string s, .int .i64 i, .iface 23 (.int .i64 k)] w (Post w No (Wrapped (.iface 23 (.int .i64 k)) [] s i)) := by
  refine enter0 (vs := [_, _, _]) Tryd.func19 rfl Tryd.ntmps19 rfl ?_
  repeat' first
    | refine k_then ?_ | refine c_seq ?_ | refine c_region ?_ | refine s_nil ?_ | refine s_move (by exact rfl) (by exact rfl) ?_ | refine s_assign (by exact rfl) (by exact rfl) ?_ | refine c_skip ?_ | refine c_cond_f (by exact rfl) ?_ | refine s_q rfl rfl (by exact rfl) (q_nil_f rfl (by exact rfl)).q ?_ | fail
  refine s_q rfl rfl (by exact rfl) (q_assert (asKK _) rfl (by exact rfl)).q ?_
  repeat' first
    | refine k_then ?_ | refine c_seq ?_ | refine c_region ?_ | refine s_nil ?_ | refine s_move (by exact rfl) (by exact rfl) ?_ | refine s_assign (by exact rfl) (by exact rfl) ?_ | refine s_extract (by exact rfl) (by exact rfl) (by exact rfl) ?_ | refine s_pick_t (by exact rfl) (by exact rfl) (by exact rfl) ?_ | refine c_skip ?_ | (refine c_cond_p (by exact rfl) (fun h => ?_) (fun h => ?_) <;> try (exfalso; omega)) | refine w_move (by exact rfl) (by exact rfl) (by exact rfl) (by exact rfl) ?_ | refine w_eql (by exact rfl) (by exact rfl) (by exact rfl) (by exact rfl) (by exact rfl) ?_ | fail
  refine o_build [(0, .string s, [.string s]), (1, .int .i64 i, [.int .i64 i]), (2, .iface 23 (.int .i64 k), [.iface 23 (.int .i64 k)])] (by exact rfl) (by exact rfl) (by simp [Value.cells]) (by exact rfl) ?_
  repeat' first
    | refine k_then ?_ | refine s_nil ?_ | refine s_assign (by exact rfl) (by exact rfl) ?_ | refine o_box (by exact rfl) (by exact rfl) (fun b => ?_) | refine c_ret ?_ | refine s_q rfl rfl (by exact rfl) (q_iface rfl (by exact rfl)).q ?_ | fail
  exact ret1 [0] rfl rfl rfl ⟨b, rfl, rfl⟩
/-- a chain made of steps -/
def ndOf (r : List Nd) : List Stp := r.map fun x => (x.s, x.i)
end Go.Proofs.YtllkoinbfegonaaDoor
end
section
set_option linter.unusedVariables false
namespace Go.Proofs
open Go.Shelf
def Tryd.itoaLay_ren : Go.Shelf.Ren := ⟨fun | 171 => 34 | 243 => 53 | 246 => 63 | 283 => 71 | 284 => 72 | 285 => 73 | 286 => 74 | 129 => 88 | 317 => 90 | 318 => 91 | 319 => 92 | 320 => 93 | 337 => 106 | 338 => 107 | n => n, fun | 3 => 3 | 9 => 9 | 2 => 2 | 4 => 4 | 171 => 137 | 0 => 0 | 53 => 90 | 37 => 63 | 5 => 5 | 173 => 140 | 212 => 157 | 51 => 153 | 20 => 20 | 213 => 158 | 46 => 134 | 232 => 174 | 233 => 175 | n => n, fun | 17 => 1 | 18 => 3 | 19 => 4 | n => n⟩
theorem Tryd.itoaLay : Go.Proofs.LaysM.n171 Tryd.prog Tryd.itoaLay_ren := {
  mixed := by kernel_rfl
  f129 := Tryd.func88.trans (congrArg some (by kernel_rfl))
  f171 := Tryd.func34.trans (congrArg some (by kernel_rfl))
  f243 := Tryd.func53.trans (congrArg some (by kernel_rfl))
  f246 := Tryd.func63.trans (congrArg some (by kernel_rfl))
  f283 := Tryd.func71.trans (congrArg some (by kernel_rfl))
  f284 := Tryd.func72.trans (congrArg some (by kernel_rfl))
  f285 := Tryd.func73.trans (congrArg some (by kernel_rfl))
  f286 := Tryd.func74.trans (congrArg some (by kernel_rfl))
  f317 := Tryd.func90.trans (congrArg some (by kernel_rfl))
  f318 := Tryd.func91.trans (congrArg some (by kernel_rfl))
  f319 := Tryd.func92.trans (congrArg some (by kernel_rfl))
  f320 := Tryd.func93.trans (congrArg some (by kernel_rfl))
  f337 := Tryd.func106.trans (congrArg some (by kernel_rfl))
  f338 := Tryd.func107.trans (congrArg some (by kernel_rfl))
  t0 := Tryd.underlying0
  a0 := Tryd.isAgg0
  z0 := Tryd.sizeOf0
  v0 := Tryd.zeroValue0
  t2 := Tryd.underlying2
  a2 := Tryd.isAgg2
  z2 := Tryd.sizeOf2
  v2 := Tryd.zeroValue2
  t3 := Tryd.underlying3
  a3 := Tryd.isAgg3
  z3 := Tryd.sizeOf3
  v3 := Tryd.zeroValue3
  t4 := Tryd.underlying4
  a4 := Tryd.isAgg4
  z4 := Tryd.sizeOf4
  v4 := Tryd.zeroValue4
  t5 := Tryd.underlying5
  a5 := Tryd.isAgg5
  z5 := Tryd.sizeOf5
  v5 := Tryd.zeroValue5
  t9 := Tryd.underlying9
  a9 := Tryd.isAgg9
  z9 := Tryd.sizeOf9
  v9 := Tryd.zeroValue9
  t20 := Tryd.underlying20
  a20 := Tryd.isAgg20
  z20 := Tryd.sizeOf20
  v20 := Tryd.zeroValue20
  t37 := Tryd.underlying63
  a37 := Tryd.isAgg63
  z37 := Tryd.sizeOf63
  v37 := Tryd.zeroValue63
  t46 := Tryd.underlying134
  a46 := Tryd.isAgg134
  z46 := Tryd.sizeOf134
  v46 := Tryd.zeroValue134
  t51 := Tryd.underlying153
  a51 := Tryd.isAgg153
  z51 := Tryd.sizeOf153
  v51 := Tryd.zeroValue153
  t53 := Tryd.underlying90
  a53 := Tryd.isAgg90
  z53 := Tryd.sizeOf90
  v53 := Tryd.zeroValue90
  t171 := Tryd.underlying137
  a171 := Tryd.isAgg137
  z171 := Tryd.sizeOf137
  v171 := Tryd.zeroValue137
  t173 := Tryd.underlying140
  a173 := Tryd.isAgg140
  z173 := Tryd.sizeOf140
  v173 := Tryd.zeroValue140
  t212 := Tryd.underlying157
  a212 := Tryd.isAgg157
  z212 := Tryd.sizeOf157
  v212 := Tryd.zeroValue157
  t213 := Tryd.underlying158
  a213 := Tryd.isAgg158
  z213 := Tryd.sizeOf158
  t232 := Tryd.underlying174
  a232 := Tryd.isAgg174
  z232 := Tryd.sizeOf174
  v232 := Tryd.zeroValue174
  t233 := Tryd.underlying175
  a233 := Tryd.isAgg175
  z233 := Tryd.sizeOf175
  v233 := Tryd.zeroValue175
  g17 := by kernel_rfl
  g18 := by kernel_rfl
  g19 := by kernel_rfl
  i0 := by kernel_rfl
  i2 := by kernel_rfl
  i3 := by kernel_rfl
  i4 := by kernel_rfl
  i5 := by kernel_rfl
  i9 := by kernel_rfl
  i20 := by kernel_rfl
  i37 := by kernel_rfl
  i46 := by kernel_rfl
  i51 := by kernel_rfl
  i53 := by kernel_rfl
  i171 := by kernel_rfl
  i173 := by kernel_rfl
  i212 := by kernel_rfl
  i232 := by kernel_rfl
  i233 := by kernel_rfl
  m17 := by kernel_rfl
  m18 := by kernel_rfl
  m19 := by kernel_rfl }
end Go.Proofs
namespace Go.Proofs.YtllkoinbfegonaaDoor
open Go Go.RowKit Go.Sl Go.Stop Go.Extern.Stop Go.Extern
theorem mod_grow (w : World) (k : Nat) (xs : Array Obj) : Mod w No (_root_.Go.Sort.grow (w.drewN k) xs) No :=
  ⟨rfl, rfl, rfl, Nat.le_add_right _ _, by show _ ≤ (w.heap ++ xs).size; simp, fun i hi _ => by
    show (w.heap ++ xs)[i]? = _
    rw [Array.getElem?_append_left hi], fun i h => h.elim⟩
/-- the table of powers, where it is read -/
def RT (w : World) (S : FS) : Prop := ∀ w' S', Mod w S w' S' → Lib.TabIs Tryd.prog w' "internal/strconv.uint64pow10" .u64 Lib.pow10Tab
theorem RT.old {w0 w : World} {S0 : FS} {L : List HP} (hs : St w0 S0 L w) (hr : RT w0 S0) : RT w No := by
  intro w' S' hm
  obtain ⟨S, hm0, _⟩ := hs
  exact hr w' (fun k => S k ∨ S' k) (hm0.trans ⟨hm.os, hm.tape, hm.output, hm.drawn, hm.size, fun k hk _ => hm.keep k hk (fun h => h), fun k hk => hk.imp id (fun h => (hm.new k h).elim (fun h => h.elim) id)⟩)
def itoaB (n : Int) : ByteArray := ⟨(Lib.itoa n).toArray⟩
theorem Itoa_ok (n : Int) (w : World) (h0 : -9223372036854775808 ≤ n) (h1 : n ≤ 9223372036854775807) (ht : RT w No) :
    Calls Tryd.prog 34 #[.int .i64 n] w (Post w No (Just (.string (itoaB n)))) := by
  have c := Any.strconv_Itoa Tryd.itoaLay n h0 h1 w (ht w No (Mod.refl _ _))
  change Calls Tryd.prog 34 _ _ _ at c
  refine Calls.mono c ?_
  rintro e w' ⟨rfl, k, os, rfl⟩
  exact ⟨_, [], ⟨rfl, rfl⟩, rfl, No, mod_grow w k os, trivial⟩
set_option maxRecDepth 100000
set_option maxHeartbeats 8000000
set_option linter.unusedVariables false
set_option linter.unusedSimpArgs false
attribute [local irreducible] Code.wp wpList bodyPost wpQuiet Exit.then Exit.inBlock Post wpAnyH wpOp
end Go.Proofs.YtllkoinbfegonaaDoor
end
section
set_option linter.unusedVariables false
set_option linter.unusedSimpArgs false
namespace Go.Sl
open Go Go.RowKit
section
variable {P : Program} {w0 : World} {S0 : FS} {n : Nat} {F : List (Nat × Value)} {L : List HP} {o : Oper} {rest : List Oper} {ops : Array Oper} {Q : Exit → Act → World → Prop} {d : Nat} {v : Value} {x y : Operand} {t t' : TypeId} {R : Act → World → Prop} {i j : Int} [HasD n]
theorem q_remt (ho : o.op = .binOp .rem t x y t') (hx : ev F x = some (.int .i64 i)) (hy : ev F y = some (.int .i64 j)) (h : 0 < j) : R1 P w0 S0 n F L o (.int .i64 (i.tmod j)) :=
  q_of_pure fun a hf w => by
    have hj : ¬ j = 0 := by omega
    simp [execOp, ho, hf.eval hx, hf.eval hy, eqGuard, binOp, Op.intDiv, hj]
theorem q_quot (ho : o.op = .binOp .quo t x y t') (hx : ev F x = some (.int .i64 i)) (hy : ev F y = some (.int .i64 j)) (h : 0 < j) (hb : -9223372036854775808 ≤ i.tdiv j ∧ i.tdiv j ≤ 9223372036854775807) : R1 P w0 S0 n F L o (.int .i64 (i.tdiv j)) :=
  q_of_pure fun a hf w => by
    have hj : ¬ j = 0 := by omega
    have hw : IntKind.wrap .i64 (i.tdiv j) = i.tdiv j := wrap_id (by simpa [IntKind.min, IntKind.max, IntKind.signed, IntKind.bits] using hb)
    simp [execOp, ho, hf.eval hx, hf.eval hy, eqGuard, binOp, Op.intDiv, hj, hw]
theorem q_pne_f {ad : Addr} [T : PtTy P t] (ho : o.op = .binOp .neq t x (.const (.pointer none)) t') (hx : ev F x = some (.pointer (some ad))) : R1 P w0 S0 n F L o (.bool true) :=
  q_of_pure fun a hf w => by
    obtain ⟨te, hu⟩ := T.u
    have h : ∀ d : Nat, (Op.equalIn (d + 1) t (.pointer (some ad)) (.pointer none)).run P w = .ok false w := fun d => by simp [Op.equalIn, run_underlying hu]
    have e : a.eval (.const (.pointer none)) = .pointer none := rfl
    simp only [execOp, ho, hf.eval hx, e, eqGuard, binOp]
    simp [Op.equal, Op.maxDepth, h 9999]
theorem q_byte (hu : P.underlying t = some (.int .i64)) (hu' : P.underlying t' = some (.int .u8)) (ho : o.op = .convert t t' x) (hx : ev F x = some (.int .i64 i)) (h : 0 ≤ i ∧ i ≤ 255) : R1 P w0 S0 n F L o (.int .u8 i) :=
  q_of_pure fun ac hf w => by
    have e : IntKind.wrap .u8 i = i := wrap_id (by simp [IntKind.min, IntKind.max, IntKind.signed, IntKind.bits]; omega)
    simp [execOp, ho, hf.eval hx, Go.convert, run_underlying hu, run_underlying hu', Conv.intToInt, e]
theorem q_bytes {e : TypeId} {m : Nat} {xs : List Int} (hu : P.underlying t = some (.slice e)) (he : P.underlying e = some (.int .u8)) (hd : P.underlying t' = some .string) (ho : o.op = .convert t t' x) (hx : ev F x = some v) (hL : rowHP v e 1 m (xs.map (Value.int .u8)) ∈ L) (hl : xs.length = m) (h0 : 0 < m) : R1 P w0 S0 n F L o (.string (strOfNums xs)) :=
  q_of_run fun a hf w hs => by
    obtain ⟨S, hsat⟩ := hs.mem hL
    have rd := rowHP_rd hsat
    rcases (rowHP_shp hsat).2 with ⟨_, h⟩ | ⟨g, off, cap, rfl, _⟩ | ⟨_, h⟩
    · omega
    · have c := run_convert_bytes_arg (P := P) w t e hu he g off m cap xs hl (fun k hk => by
        have hk' : k < xs.length := by omega
        obtain ⟨g', off', m', cap', e1, hc⟩ := rd k (.int .u8 (xs.getD k 0)) (by simp [hk'])
        simp only [Value.slice.injEq, Option.some.injEq, Addr.mk.injEq] at e1
        obtain ⟨⟨rfl, rfl, _⟩, _⟩ := e1
        exact hc) t' hd
      simp only [execOp, ho, hf.eval hx, Sem.run_bind, c, Result.andThen_ok, Sem.run_pure]
    · omega
end
end Go.Sl
end
section
set_option linter.unusedVariables false
namespace Go.Proofs.YtllkoinbfegonaaDoor
open Go Go.RowKit Go.Sl
theorem str1 (u : Nat) (h : u < 10) : strOfNums [(48 : Int) + (u : Int)] = ⟨#[UInt8.ofNat (48 + u)]⟩ := by
  show (⟨_⟩ : ByteArray) = _
  congr 1
theorem itoaB_lo {n : Nat} (h : n < 10) : itoaB (n : Int) = strOfNums [(48 : Int) + (n : Int)] := by
  rw [str1 n h, itoaB, Lib.itoa, if_neg (by omega), Int.toNat_natCast, Lib.decDigits, dif_pos h]
theorem itoaB_hi {n : Nat} (h : ¬ n < 10) : itoaB (n : Int) = itoaB ((n / 10 : Nat) : Int) ++ strOfNums [(48 : Int) + ((n % 10 : Nat) : Int)] := by
  rw [str1 _ (by omega), itoaB, itoaB, Lib.itoa, Lib.itoa, if_neg (by omega), if_neg (by omega), Int.toNat_natCast, Int.toNat_natCast, Lib.decDigits, dif_neg h]
  apply ByteArray.ext
  simp
theorem itoaB_nlo {n : Nat} (h : n < 10) (h0 : 0 < n) : itoaB (-(n : Int)) = ⟨#[45]⟩ ++ strOfNums [(48 : Int) + (n : Int)] := by
  rw [str1 n h, itoaB, Lib.itoa, if_pos (by omega), Int.natAbs_neg, Int.natAbs_natCast, Lib.decDigits, dif_pos h]
  apply ByteArray.ext
  simp
theorem itoaB_nhi {n : Nat} (h : ¬ n < 10) : itoaB (-(n : Int)) = itoaB (-((n / 10 : Nat) : Int)) ++ strOfNums [(48 : Int) + ((n % 10 : Nat) : Int)] := by
  rw [str1 _ (by omega), itoaB, itoaB, Lib.itoa, Lib.itoa, if_pos (by omega), if_pos (by omega), Int.natAbs_neg, Int.natAbs_natCast, Int.natAbs_neg, Int.natAbs_natCast, Lib.decDigits, dif_neg h]
  apply ByteArray.ext
  simp
theorem dec_len : ∀ (k u : Nat), u < 10 ^ (k + 1) → (Lib.decDigits u).length ≤ k + 1
  | k, u, h => by
    rw [Lib.decDigits]
    split
    · simp
    · rename_i h10
      cases k with
      | zero => exact absurd h (by omega)
      | succ k =>
        have := dec_len k (u / 10) (by rw [Nat.pow_succ] at h; omega)
        simp; omega
theorem itoaB_size {n : Int} (h0 : -9223372036854775808 ≤ n) (h1 : n ≤ 9223372036854775807) : (itoaB n).size ≤ 64 := by
  show (Lib.itoa n).toArray.size ≤ 64
  rw [List.size_toArray, Lib.itoa]
  split
  · have := dec_len 19 n.natAbs (by omega)
    simp; omega
  · have := dec_len 19 n.toNat (by omega)
    omega
set_option maxRecDepth 100000
set_option maxHeartbeats 8000000
set_option linter.unusedVariables false
set_option linter.unusedSimpArgs false
attribute [local irreducible] Code.wp wpList bodyPost wpQuiet Exit.then Exit.inBlock Post wpAnyH wpOp
theorem Digits_nat : ∀ (m : Nat) (w : World), (m : Int) ≤ 9223372036854775807 → Calls Tryd.prog 22 #[.int .i64 (m : Int)] w (Post w No (Just (.string (itoaB (m : Int)))))
  | m, w, hm => by
    have hr : (m : Int).tmod 10 = ((m % 10 : Nat) : Int) := by rw [Int.tmod_eq_emod_of_nonneg (by omega)]; omega
    have hq : (m : Int).tdiv 10 = ((m / 10 : Nat) : Int) := by rw [Int.tdiv_eq_ediv_of_nonneg (by omega)]; omega
    refine enter0 (vs := [_]) Tryd.func22 rfl Tryd.ntmps22 rfl ?_
    repeat' first
      | refine k_then ?_ | refine c_seq ?_ | refine c_region ?_ | refine s_nil ?_ | refine s_move (by exact rfl) (by exact rfl) ?_ | refine s_assign (by exact rfl) (by exact rfl) ?_ | refine s_lss (by exact rfl) (by exact rfl) (by exact rfl) ?_ | refine s_add (by exact rfl) (by exact rfl) (by exact rfl) (by omega) ?_ | refine s_rem (by exact rfl) (by exact rfl) (by exact rfl) (by omega) ?_ | refine c_skip ?_ | (refine c_cond_p (by exact rfl) (fun h => ?_) (fun h => ?_) <;> try (exfalso; omega)) | fail
    refine s_q rfl rfl (by exact rfl) (q_byte Tryd.underlying3 Tryd.underlying5 rfl (by exact rfl) (by omega)).q ?_
    refine o_mk [.int .u8 (48 + (m : Int) % 10)] (by exact rfl) (by exact rfl) rfl ?_ ?_ (by simp) fun v hv => ?_
    · simp [Value.cells]
    · simp
    rw [show ([Value.int .u8 (48 + (m : Int) % 10)].flatMap fun u => u.cells.toList) = [48 + (m : Int) % 10].map (Value.int .u8) from rfl]
    refine s_q rfl rfl (by exact rfl) (q_bytes Tryd.underlying63 Tryd.underlying5 Tryd.underlying9 rfl (by exact rfl) (.head _) rfl (by exact Nat.zero_lt_one)).q ?_
    repeat' first
      | refine k_then ?_ | refine c_seq ?_ | refine c_region ?_ | refine s_nil ?_ | refine s_move (by exact rfl) (by exact rfl) ?_ | refine s_assign (by exact rfl) (by exact rfl) ?_ | refine s_lss (by exact rfl) (by exact rfl) (by exact rfl) ?_ | refine s_quo (by exact rfl) (by exact rfl) (by exact rfl) (by omega) ?_ | refine c_skip ?_ | refine c_ret ?_ | refine k_then_ret ?_ | (refine c_cond_p (by exact rfl) (fun h => ?_) (fun h => ?_) <;> try (exfalso; omega)) | fail
    · rename_i h10
      refine ret1 [] rfl rfl rfl ⟨congrArg Value.string ?_, rfl⟩
      rw [itoaB_lo (by omega)]
      congr 3
      omega
    · rename_i h10
      refine s_call (vs := [.int .i64 ((m : Int) / 10)]) (by exact rfl) (by exact rfl) (fun w h => by
        have := Digits_nat (m / 10) w (by omega)
        rwa [show ((m / 10 : Nat) : Int) = (m : Int) / 10 by omega] at this) ?_
      have hsz := itoaB_size (n := (m : Int) / 10) (by omega) (by omega)
      have hsz1 : (strOfNums [48 + (m : Int) % 10]).size = 1 := by rw [strOfNums_size]; rfl
      repeat' first
        | refine k_then ?_ | refine s_nil ?_ | refine s_move (by exact rfl) (by exact rfl) ?_ | refine s_assign (by exact rfl) (by exact rfl) ?_ | refine c_ret ?_ | refine s_q rfl rfl (by exact rfl) (q_sadd rfl (by exact rfl) (by exact rfl) (by omega)).q ?_ | fail
      refine ret1 [] rfl rfl rfl ⟨congrArg Value.string ?_, rfl⟩
      rw [itoaB_hi (n := m) (by omega), show ((m / 10 : Nat) : Int) = (m : Int) / 10 by omega, show ((m % 10 : Nat) : Int) = (m : Int) % 10 by omega]
termination_by m => m
decreasing_by omega
theorem Digits_neg : ∀ (m : Nat) (w : World), 0 < m → (m : Int) ≤ 9223372036854775808 → Calls Tryd.prog 22 #[.int .i64 (-(m : Int))] w (Post w No (Just (.string (itoaB (-(m : Int))))))
  | m, w, h0, hm => by
    have hr : (-(m : Int)).tmod 10 = -((m : Int) % 10) := by rw [Int.neg_tmod, Int.tmod_eq_emod_of_nonneg (by omega)]
    have hq : (-(m : Int)).tdiv 10 = -((m : Int) / 10) := by rw [Int.neg_tdiv, Int.tdiv_eq_ediv_of_nonneg (by omega)]
    refine enter0 (vs := [_]) Tryd.func22 rfl Tryd.ntmps22 rfl ?_
    repeat' first
      | refine k_then ?_ | refine c_seq ?_ | refine c_region ?_ | refine s_nil ?_ | refine s_move (by exact rfl) (by exact rfl) ?_ | refine s_assign (by exact rfl) (by exact rfl) ?_ | refine s_lss (by exact rfl) (by exact rfl) (by exact rfl) ?_ | (refine c_cond_p (by exact rfl) (fun h => ?_) (fun h => ?_) <;> try (exfalso; omega)) | fail
    refine s_q rfl rfl (by exact rfl) (q_remt rfl (by exact rfl) (by exact rfl) (by decide)).q ?_
    rw [hr]
    repeat' first
      | refine s_sub (by exact rfl) (by exact rfl) (by exact rfl) (by omega) ?_ | fail
    refine s_q rfl rfl (by exact rfl) (q_byte Tryd.underlying3 Tryd.underlying5 rfl (by exact rfl) (by omega)).q ?_
    refine o_mk [.int .u8 (48 - -((m : Int) % 10))] (by exact rfl) (by exact rfl) rfl ?_ ?_ (by simp) fun v hv => ?_
    · simp [Value.cells]
    · simp
    rw [show ([Value.int .u8 (48 - -((m : Int) % 10))].flatMap fun u => u.cells.toList) = [48 - -((m : Int) % 10)].map (Value.int .u8) from rfl]
    refine s_q rfl rfl (by exact rfl) (q_bytes Tryd.underlying63 Tryd.underlying5 Tryd.underlying9 rfl (by exact rfl) (.head _) rfl (by exact Nat.zero_lt_one)).q ?_
    have hsz1 : (strOfNums [48 - -((m : Int) % 10)]).size = 1 := by rw [strOfNums_size]; rfl
    repeat' first
      | refine k_then ?_ | refine c_seq ?_ | refine c_region ?_ | refine s_nil ?_ | refine s_move (by exact rfl) (by exact rfl) ?_ | refine s_assign (by exact rfl) (by exact rfl) ?_ | refine s_gtr (by exact rfl) (by exact rfl) (by exact rfl) ?_ | refine c_skip ?_ | (refine c_cond_p (by exact rfl) (fun h => ?_) (fun h => ?_) <;> try (exfalso; omega)) | fail
    · rename_i h10
      have h45 : (⟨#[45]⟩ : ByteArray).size = 1 := rfl
      repeat' first
        | refine k_then ?_ | refine s_nil ?_ | refine s_assign (by exact rfl) (by exact rfl) ?_ | refine c_ret ?_ | refine k_then_ret ?_ | refine s_q rfl rfl (by exact rfl) (q_sadd rfl (by exact rfl) (by exact rfl) (by omega)).q ?_ | fail
      refine ret1 [] rfl rfl rfl ⟨congrArg Value.string ?_, rfl⟩
      rw [itoaB_nlo (n := m) (by omega) h0, show (48 : Int) - -((m : Int) % 10) = 48 + (m : Int) by omega]
    · rename_i h10
      refine s_q rfl rfl (by exact rfl) (q_quot rfl (by exact rfl) (by exact rfl) (by decide) (by omega)).q ?_
      rw [hq]
      skip
      refine s_call (vs := [.int .i64 (-((m : Int) / 10))]) (by exact rfl) (by exact rfl) (fun w h => by
        have := Digits_neg (m / 10) w (by omega) (by omega)
        rwa [show ((m / 10 : Nat) : Int) = (m : Int) / 10 by omega] at this) ?_
      have hsz := itoaB_size (n := -((m : Int) / 10)) (by omega) (by omega)
      repeat' first
        | refine k_then ?_ | refine s_nil ?_ | refine s_move (by exact rfl) (by exact rfl) ?_ | refine s_assign (by exact rfl) (by exact rfl) ?_ | refine c_ret ?_ | refine k_then_ret ?_ | refine s_q rfl rfl (by exact rfl) (q_sadd rfl (by exact rfl) (by exact rfl) (by omega)).q ?_ | fail
      refine ret1 [] rfl rfl rfl ⟨congrArg Value.string ?_, rfl⟩
      rw [itoaB_nhi (n := m) (by omega), show ((m / 10 : Nat) : Int) = (m : Int) / 10 by omega, show ((m % 10 : Nat) : Int) = (m : Int) % 10 by omega, show (48 : Int) - -((m : Int) % 10) = 48 + (m : Int) % 10 by omega]
termination_by m => m
decreasing_by omega
theorem Digits_ok (n : Int) (w : World) (h0 : -9223372036854775808 ≤ n) (h1 : n ≤ 9223372036854775807) : Calls Tryd.prog 22 #[.int .i64 n] w (Post w No (Just (.string (itoaB n)))) := by
  by_cases h : 0 ≤ n
  · have := Digits_nat n.toNat w (by omega)
    rwa [Int.toNat_of_nonneg h] at this
  · have := Digits_neg (-n).toNat w (by omega) (by omega)
    rwa [Int.toNat_of_nonneg (by omega), Int.neg_neg] at this
end Go.Proofs.YtllkoinbfegonaaDoor
end
section
set_option linter.unusedVariables false
namespace Go.Sl
open Go Go.RowKit
section
variable {P : Program} {w0 : World} {S0 : FS} {n : Nat} {F : List (Nat × Value)} {L Lk : List HP} {ops : Array Oper} {Q : Exit → Act → World → Prop} {plan : List PI} [HasD n]
theorem RP.weaken {G : List (Nat × Value)} {M : List HP} (is : List Nat) (hL : pick L is = some M) (hF : covers F G) (h : RP P w0 S0 n ops Q Lk plan G M) : RP P w0 S0 n ops Q Lk plan F L := Reach.weaken is hL hF h
/-- orders that come to one state -/
theorem p_join {X : Type} (rest : List PI) (FX : X → List (Nat × Value)) (LX : X → List HP) (h : (∀ x, RP P w0 S0 n ops Q Lk rest (FX x) (LX x)) → RP P w0 S0 n ops Q Lk plan F L) (hk : ∀ x, RP P w0 S0 n ops Q Lk rest (FX x) (LX x)) : RP P w0 S0 n ops Q Lk plan F L := h hk
theorem pj_end {X : Type} {FX : X → List (Nat × Value)} {LX : X → List HP} (hk : ∀ x, RP P w0 S0 n ops Q Lk plan (FX x) (LX x)) (x : X) (is : List Nat) (hL : pick L is = some (LX x)) (hF : covers F (FX x)) : RP P w0 S0 n ops Q Lk plan F L := Reach.weaken is hL hF (hk x)
end
end Go.Sl
end
section
set_option linter.unusedVariables false
namespace Go.Proofs.YtllkoinbfegonaaDoor
open Go Go.RowKit Go.Sl
set_option maxRecDepth 100000
set_option maxHeartbeats 8000000
set_option linter.unusedVariables false
set_option linter.unusedSimpArgs false
attribute [local irreducible] Code.wp wpList bodyPost wpQuiet Exit.then Exit.inBlock Post wpAnyH wpOp
theorem number_nat : ∀ (m : Nat) (w : World), m ≤ 999 → Calls Tryd.prog 54 #[.int .i64 (m : Int)] w (Post w No (Just (.string (itoaB (m : Int)))))
  | m, w, hm => by
    refine enter0 (vs := [_]) Tryd.func54 rfl Tryd.ntmps54 rfl ?_
    repeat' first
      | refine k_then ?_ | refine c_seq ?_ | refine c_region ?_ | refine s_nil ?_ | refine s_move (by exact rfl) (by exact rfl) ?_ | refine s_assign (by exact rfl) (by exact rfl) ?_ | refine s_lss (by exact rfl) (by exact rfl) (by exact rfl) ?_ | refine s_add (by exact rfl) (by exact rfl) (by exact rfl) (by omega) ?_ | refine s_pick_f (by exact rfl) (by exact rfl) (by exact rfl) ?_ | refine c_skip ?_ | (refine c_cond_p (by exact rfl) (fun h => ?_) (fun h => ?_) <;> try (exfalso; omega)) | (refine g_case (by exact rfl) (by exact rfl) (fun h => ?_) (fun h => ?_) <;> try (exfalso; omega)) | refine w_move (by exact rfl) (by exact rfl) (by exact rfl) (by exact rfl) ?_ | refine w_gtr (by exact rfl) (by exact rfl) (by exact rfl) (by exact rfl) (by exact rfl) ?_ | fail
    · rename_i h10
      refine s_q rfl rfl (by exact rfl) (q_byte Tryd.underlying3 Tryd.underlying5 rfl (by exact rfl) (by omega)).q ?_
      refine o_mk [.int .u8 (48 + (m : Int))] (by exact rfl) (by exact rfl) rfl ?_ ?_ (by simp) fun v hv => ?_
      · simp [Value.cells]
      · simp
      rw [show ([Value.int .u8 (48 + (m : Int))].flatMap fun u => u.cells.toList) = [48 + (m : Int)].map (Value.int .u8) from rfl]
      refine s_q rfl rfl (by exact rfl) (q_bytes Tryd.underlying63 Tryd.underlying5 Tryd.underlying9 rfl (by exact rfl) (.head _) rfl (by exact Nat.zero_lt_one)).q ?_
      repeat' first
        | refine k_then ?_ | refine s_nil ?_ | refine s_assign (by exact rfl) (by exact rfl) ?_ | refine c_ret ?_ | refine k_then_ret ?_ | fail
      refine ret1 [] rfl rfl rfl ⟨congrArg Value.string ?_, rfl⟩
      rw [itoaB_lo (by omega)]
    · rename_i h10
      refine p_begin0 [(0, true), (1, true), (3, true), (4, true), (5, true), (6, true), .tree (.two 2 (.one 7 (.one 8 .leaf)) 7 (.two 2 (.one 8 .leaf) 8 (.one 2 .leaf))), (9, true), (10, true)] (by kernel_rfl) ?_
      have hrec : ∀ w, Calls Tryd.prog 54 #[.int .i64 ((m : Int) / 10)] w (Post w No (Just (.string (itoaB ((m : Int) / 10))))) := fun w => by
        have := number_nat (m / 10) w (by omega)
        rwa [show ((m / 10 : Nat) : Int) = (m : Int) / 10 by omega] at this
      have hsz := itoaB_size (n := (m : Int) / 10) (by omega) (by omega)
      have hsz1 : (strOfNums [48 + (m : Int) % 10]).size = 1 := by rw [strOfNums_size]; rfl
      repeat' first
        | (refine p_at (by exact rfl) ?_
           first
            | refine t_move (by exact rfl) (by exact rfl) (by exact fun _ h => h) ?_ | refine t_add (by exact rfl) (by exact rfl) (by exact rfl) (by omega) (by exact fun _ h => h) ?_ | refine t_rem (by exact rfl) (by exact rfl) (by exact rfl) (by omega) (by exact fun _ h => h) ?_ | refine t_quo (by exact rfl) (by exact rfl) (by exact rfl) (by omega) (by exact fun _ h => h) ?_ | fail)
        | fail
      refine p_at (by exact rfl) ?_
      refine (fun ho => p_q ho rfl rfl (by exact rfl) (fun _ h => h.pick [] (by exact rfl)) (q_byte Tryd.underlying3 Tryd.underlying5 rfl (by exact rfl) (by omega)) ?_)
      refine p_join (X := Unit) [(9, true), (10, true)] (fun _ => [(18, .string (itoaB ((m : Int) / 10))), (24, .string (strOfNums [48 + (m : Int) % 10]))]) (fun _ => []) (fun hk => ?_) fun _ => ?_
      · refine p_two ?_ ?_
        · refine p_call (gd := none) (vs := [.int .i64 ((m : Int) / 10)]) (by exact rfl) rfl (by exact rfl) (fun w h => hrec w) (fun _ h => h.pick [] (by exact rfl)) ?_
          refine p_one ?_
          refine p_mk (sz := 1) [.int .u8 (48 + (m : Int) % 10)] (by exact rfl) rfl (by exact rfl) rfl (by simp [Value.cells]) (by simp) (by simp) (fun _ _ h => h.pick [] (by exact rfl)) (fun v hv => ?_)
          show RP _ _ _ _ _ _ _ _ _ [rowHP v 5 1 1 ([48 + (m : Int) % 10].map (Value.int .u8))]
          refine p_one ?_
          refine p_r (by exact rfl) rfl rfl (by exact rfl) (fun _ h => h.pick [] (by exact rfl)) (q_bytes Tryd.underlying63 Tryd.underlying5 Tryd.underlying9 rfl (by exact rfl) (.head _) rfl (by exact Nat.zero_lt_one)) ?_
          refine p_leaf ?_
          exact pj_end hk () [] (by exact rfl) ⟨rfl, rfl, trivial⟩
        · refine p_mk (sz := 1) [.int .u8 (48 + (m : Int) % 10)] (by exact rfl) rfl (by exact rfl) rfl (by simp [Value.cells]) (by simp) (by simp) (fun _ _ h => h.pick [] (by exact rfl)) (fun v hv => ?_)
          show RP _ _ _ _ _ _ _ _ _ [rowHP v 5 1 1 ([48 + (m : Int) % 10].map (Value.int .u8))]
          refine p_two ?_ ?_
          · refine p_call (gd := none) (vs := [.int .i64 ((m : Int) / 10)]) (by exact rfl) rfl (by exact rfl) (fun w h => hrec w) (fun _ h => h.pick [] (by exact rfl)) ?_
            refine p_one ?_
            refine p_r (by exact rfl) rfl rfl (by exact rfl) (fun _ h => h.pick [] (by exact rfl)) (q_bytes Tryd.underlying63 Tryd.underlying5 Tryd.underlying9 rfl (by exact rfl) (.head _) rfl (by exact Nat.zero_lt_one)) ?_
            refine p_leaf ?_
            exact pj_end hk () [] (by exact rfl) ⟨rfl, rfl, trivial⟩
          · refine p_r (by exact rfl) rfl rfl (by exact rfl) (fun _ h => h.pick [] (by exact rfl)) (q_bytes Tryd.underlying63 Tryd.underlying5 Tryd.underlying9 rfl (by exact rfl) (.head _) rfl (by exact Nat.zero_lt_one)) ?_
            refine p_one ?_
            refine p_call (gd := none) (vs := [.int .i64 ((m : Int) / 10)]) (by exact rfl) rfl (by exact rfl) (fun w h => hrec w) (fun _ h => h.pick [] (by exact rfl)) ?_
            refine p_leaf ?_
            exact pj_end hk () [] (by exact rfl) ⟨rfl, rfl, trivial⟩
      refine p_at (by exact rfl) ?_
      refine (fun ho => p_q ho rfl rfl (by exact rfl) (fun _ h => h.pick [] (by exact rfl)) (q_sadd rfl (by exact rfl) (by exact rfl) (by omega)) ?_)
      repeat' first
        | refine p_nil ?_
        | (refine p_at (by exact rfl) ?_
           first
            | refine t_assign (by exact rfl) (by exact rfl) (by exact fun _ h => h) ?_ | fail)
        | fail
      repeat' first
        | refine k_then ?_ | refine c_ret ?_ | fail
      refine ret1 [] rfl rfl rfl ⟨congrArg Value.string ?_, rfl⟩
      rw [itoaB_hi (n := m) (by omega), show ((m / 10 : Nat) : Int) = (m : Int) / 10 by omega, show ((m % 10 : Nat) : Int) = (m : Int) % 10 by omega]
termination_by m => m
decreasing_by omega
def kindB (k : Int) : ByteArray := "filigree error ".toUTF8 ++ (if 0 ≤ k ∧ k ≤ 999 then itoaB k else ⟨#[63]⟩)
theorem number_ok (k : Int) (w : World) : Calls Tryd.prog 54 #[.int .i64 k] w (Post w No (Just (.string (if 0 ≤ k ∧ k ≤ 999 then itoaB k else ⟨#[63]⟩)))) := by
  by_cases h : 0 ≤ k ∧ k ≤ 999
  · have := number_nat k.toNat w (by omega)
    rw [if_pos h]
    rwa [Int.toNat_of_nonneg h.1] at this
  · rw [if_neg h]
    refine enter0 (vs := [_]) Tryd.func54 rfl Tryd.ntmps54 rfl ?_
    repeat' first
      | refine k_then ?_ | refine c_seq ?_ | refine c_region ?_ | refine s_nil ?_ | refine s_move (by exact rfl) (by exact rfl) ?_ | refine s_assign (by exact rfl) (by exact rfl) ?_ | refine s_lss (by exact rfl) (by exact rfl) (by exact rfl) ?_ | refine s_pick_t (by exact rfl) (by exact rfl) (by exact rfl) ?_ | refine s_pick_f (by exact rfl) (by exact rfl) (by exact rfl) ?_ | refine c_ret ?_ | refine k_then_ret ?_ | (refine c_cond_p (by exact rfl) (fun h => ?_) (fun h => ?_) <;> try (exfalso; omega)) | refine c_cond_t (by exact rfl) ?_ | (refine g_case (by exact rfl) (by exact rfl) (fun h => ?_) (fun h => ?_) <;> try (exfalso; omega)) | refine g_skip (by exact rfl) (by exact rfl) (by exact rfl) (by exact rfl) ?_ | refine w_move (by exact rfl) (by exact rfl) (by exact rfl) (by exact rfl) ?_ | refine w_gtr (by exact rfl) (by exact rfl) (by exact rfl) (by exact rfl) (by exact rfl) ?_ | fail
    all_goals first
      | (exfalso; omega)
      | exact ret1 [] rfl rfl rfl ⟨rfl, rfl⟩
theorem KError_ok (k : Int) (w : World) : Calls Tryd.prog 35 #[.int .i64 k] w (Post w No (Just (.string (kindB k)))) := by
  have hs1 : ((if 0 ≤ k ∧ k ≤ 999 then itoaB k else ⟨#[63]⟩ : ByteArray)).size ≤ 64 := by
    split
    · exact itoaB_size (by omega) (by omega)
    · decide
  refine enter0 (vs := [_]) Tryd.func35 rfl Tryd.ntmps35 rfl ?_
  repeat' first
    | refine k_then ?_ | refine c_seq ?_ | refine c_region ?_ | refine s_nil ?_ | refine s_move (by exact rfl) (by exact rfl) ?_ | refine s_assign (by exact rfl) (by exact rfl) ?_ | fail
  refine s_call (by exact rfl) (by exact rfl) (fun w h => number_ok k w) ?_
  refine s_q rfl rfl (by exact rfl) (q_sadd rfl (by exact rfl) (by exact rfl) (by show 15 + _ ≤ _; omega)).q ?_
  repeat' first
    | refine k_then ?_ | refine s_nil ?_ | refine s_assign (by exact rfl) (by exact rfl) ?_ | refine c_ret ?_ | fail
  exact ret1 [] rfl rfl rfl ⟨by rfl, rfl⟩
end Go.Proofs.YtllkoinbfegonaaDoor
end
section
set_option linter.unusedVariables false
namespace Go.Proofs.YtllkoinbfegonaaDoor
open Go Go.RowKit Go.Sl
/-- one place's text, ahead of what it wraps -/
def plB (s : ByteArray) (i : Int) : ByteArray := s ++ ⟨#[32]⟩ ++ itoaB i ++ ⟨#[58, 32]⟩
def chB (k : Int) : List Stp → ByteArray
  | [] => kindB k
  | x :: r => plB x.1 x.2 ++ chB k r
def I64 (i : Int) : Prop := -9223372036854775808 ≤ i ∧ i ≤ 9223372036854775807
set_option maxRecDepth 100000
set_option maxHeartbeats 8000000
set_option linter.unusedVariables false
set_option linter.unusedSimpArgs false
attribute [local irreducible] Code.wp wpList bodyPost wpQuiet Exit.then Exit.inBlock Post wpAnyH wpOp
theorem FError_ok (k : Int) : ∀ (r : List Nd) (x : Nd) (w : World), RT w No → ChR w No (.iface 23 (.int .i64 k)) (x :: r) → (∀ y ∈ x :: r, I64 y.i) → (chB k (ndOf (x :: r))).size ≤ 4611686018427387904 →
    Calls Tryd.prog 12 #[.pointer (some ⟨x.b, 0, none⟩)] w (Post w No (Just (.string (chB k (ndOf (x :: r))))))
  | r, x, w, ht, hr, hi, hz => by
    have h1 := hi x (.head _)
    have hit := itoaB_size h1.1 h1.2
    have e1 : (⟨#[32]⟩ : ByteArray).size = 1 := rfl
    have e2 : (⟨#[58, 32]⟩ : ByteArray).size = 2 := rfl
    have hz1 : (plB x.s x.i).size + (chB k (ndOf r)).size ≤ 4611686018427387904 := by
      have : (chB k (ndOf (x :: r))).size = (plB x.s x.i).size + (chB k (ndOf r)).size := by show (plB x.s x.i ++ chB k (ndOf r) : ByteArray).size = _; rw [ByteArray.size_append]
      omega
    have hp : (plB x.s x.i).size = x.s.size + 1 + (itoaB x.i).size + 2 := by simp only [plB, ByteArray.size_append, e1, e2]
    refine enter0 (vs := [_]) Tryd.func12 rfl Tryd.ntmps12 rfl ?_
    have hb := hr.1
    repeat' first
      | refine k_then ?_ | refine c_seq ?_ | refine c_region ?_ | refine s_nil ?_ | refine s_move (by exact rfl) (by exact rfl) ?_ | refine s_assign (by exact rfl) (by exact rfl) ?_ | refine c_skip ?_ | refine c_cond_f (by exact rfl) ?_ | refine s_q rfl rfl (by exact rfl) (q_pnil_f rfl (by exact rfl)).q ?_ | fail
    have q1 : (x.s ++ (⟨#[32]⟩ : ByteArray)).size = x.s.size + 1 := by rw [ByteArray.size_append, e1]
    have q2 : (x.s ++ (⟨#[32]⟩ : ByteArray) ++ itoaB x.i).size = x.s.size + 1 + (itoaB x.i).size := by rw [ByteArray.size_append, q1]
    refine c_draw (by kernel_rfl) (by kernel_rfl) ?_
    repeat' first
      | refine d_move (by exact rfl) (by exact rfl) ?_ | refine d_fa (by exact rfl) (by exact rfl) ?_ | refine d_ld_rb (by exact rfl) (by exact rfl) (by assumption) (by exact rfl) ?_ | refine d_q rfl rfl (by exact rfl) (q_nilck rfl (by exact rfl)).q ?_ | refine d_q rfl rfl (by exact rfl) (q_sadd rfl (by exact rfl) (by exact rfl) (by omega)).q ?_ | fail
    refine d_call (by exact rfl) (by exact rfl) (fun w h => Itoa_ok x.i w h1.1 h1.2 (ht.old h)) ?_
    repeat' first
      | refine d_nil ?_ | refine d_assign (by exact rfl) (by exact rfl) ?_ | refine d_q rfl rfl (by exact rfl) (q_sadd rfl (by exact rfl) (by exact rfl) (by omega)).q ?_ | fail
    cases r with
    | nil =>
      repeat' first
        | refine k_then ?_ | refine c_seq ?_ | refine c_region ?_ | refine s_nil ?_ | refine s_move (by exact rfl) (by exact rfl) ?_ | refine s_fa (by exact rfl) (by exact rfl) ?_ | refine s_ld_rb (by exact rfl) (by exact rfl) (by assumption) (by exact rfl) ?_ | refine c_block ?_ | refine c_cond_f (by exact rfl) ?_ | refine s_q rfl rfl (by exact rfl) (q_nil_f rfl (by exact rfl)).q ?_ | refine s_q rfl rfl (by exact rfl) (q_nilck rfl (by exact rfl)).q ?_ | fail
      refine s_q rfl rfl (by exact rfl) (q_assert (asKK _) rfl (by exact rfl)).q ?_
      repeat' first
        | refine k_then ?_ | refine c_seq ?_ | refine c_region ?_ | refine s_nil ?_ | refine s_move (by exact rfl) (by exact rfl) ?_ | refine s_assign (by exact rfl) (by exact rfl) ?_ | refine s_extract (by exact rfl) (by exact rfl) (by exact rfl) ?_ | refine c_cond_t (by exact rfl) ?_ | fail
      refine s_call (by exact rfl) (by exact rfl) (fun w h => KError_ok k w) ?_
      refine s_q rfl rfl (by exact rfl) (q_sadd rfl (by exact rfl) (by exact rfl) (by
        show (plB x.s x.i).size + (kindB k).size ≤ _
        have : (chB k (ndOf [])).size = (kindB k).size := rfl
        omega)).q ?_
      repeat' first
        | refine k_then ?_ | refine s_nil ?_ | refine s_assign (by exact rfl) (by exact rfl) ?_ | refine c_ret ?_ | refine k_blk_ret ?_ | fail
      exact ret1 [] rfl rfl rfl ⟨rfl, rfl⟩
    | cons y r =>
      repeat' first
        | refine k_then ?_ | refine c_seq ?_ | refine c_region ?_ | refine s_nil ?_ | refine s_move (by exact rfl) (by exact rfl) ?_ | refine s_fa (by exact rfl) (by exact rfl) ?_ | refine s_ld_rb (by exact rfl) (by exact rfl) (by assumption) (by exact rfl) ?_ | refine c_block ?_ | refine c_cond_f (by exact rfl) ?_ | refine s_q rfl rfl (by exact rfl) (q_nil_f rfl (by exact rfl)).q ?_ | refine s_q rfl rfl (by exact rfl) (q_nilck rfl (by exact rfl)).q ?_ | fail
      refine s_q rfl rfl (by exact rfl) (q_assert (asFK _) rfl (by exact rfl)).q ?_
      repeat' first
        | refine k_then ?_ | refine c_seq ?_ | refine c_region ?_ | refine s_nil ?_ | refine s_extract (by exact rfl) (by exact rfl) (by exact rfl) ?_ | refine c_cond_f (by exact rfl) ?_ | fail
      refine s_q rfl rfl (by exact rfl) (q_assert (asFF _) rfl (by exact rfl)).q ?_
      repeat' first
        | refine k_then ?_ | refine c_seq ?_ | refine c_region ?_ | refine s_nil ?_ | refine s_move (by exact rfl) (by exact rfl) ?_ | refine s_assign (by exact rfl) (by exact rfl) ?_ | refine s_extract (by exact rfl) (by exact rfl) (by exact rfl) ?_ | refine c_cond_t (by exact rfl) ?_ | fail
      refine s_call (by exact rfl) (by exact rfl) (fun w h => FError_ok k r y w (ht.old h) (hr.2.old h) (fun z hzz => hi z (.tail _ hzz)) (by omega)) ?_
      refine s_q rfl rfl (by exact rfl) (q_sadd rfl (by exact rfl) (by exact rfl) (by
        show (plB x.s x.i).size + _ ≤ _
        omega)).q ?_
      repeat' first
        | refine k_then ?_ | refine s_nil ?_ | refine s_assign (by exact rfl) (by exact rfl) ?_ | refine c_ret ?_ | refine k_blk_ret ?_ | fail
      exact ret1 [] rfl rfl rfl ⟨rfl, rfl⟩
termination_by r => r.length
end Go.Proofs.YtllkoinbfegonaaDoor
end
section
set_option linter.unusedVariables false
namespace Go.Proofs.YtllkoinbfegonaaDoor
open Go Go.RowKit Go.Sl
set_option maxRecDepth 100000
set_option maxHeartbeats 8000000
set_option linter.unusedVariables false
set_option linter.unusedSimpArgs false
attribute [local irreducible] Code.wp wpList bodyPost wpQuiet Exit.then Exit.inBlock Post wpAnyH wpOp
end Go.Proofs.YtllkoinbfegonaaDoor
end
section
set_option linter.unusedVariables false
namespace Go.Proofs.YtllkoinbfegonaaDoor
open Go Go.RowKit Go.Sl
def lineB : ByteArray := ⟨#[108, 105, 110, 101]⟩
theorem line_text : chB 6 [(lineB, 3)] = ⟨#[108, 105, 110, 101, 32, 51, 58, 32, 102, 105, 108, 105, 103, 114, 101, 101, 32, 101, 114, 114, 111, 114, 32, 54]⟩ := by
  have h3 : itoaB 3 = strOfNums [48 + 3] := itoaB_lo (n := 3) (by decide)
  have h6 : itoaB 6 = strOfNums [48 + 6] := itoaB_lo (n := 6) (by decide)
  rw [chB, chB, plB, kindB, if_pos (by decide), h3, h6]
  rfl
set_option maxRecDepth 100000
set_option maxHeartbeats 8000000
set_option linter.unusedVariables false
set_option linter.unusedSimpArgs false
attribute [local irreducible] Code.wp wpList bodyPost wpQuiet Exit.then Exit.inBlock Post wpAnyH wpOp
theorem alive03_ok (w : World) (ht : RT w No) (hg : RC w No 0 (rT 27)) : Calls Tryd.prog 9 #[] w (Post w No (Just (.bool true))) := by
  refine enter0 (vs := []) Tryd.func9 rfl Tryd.ntmps9 rfl ?_
  repeat' first
    | refine k_then ?_ | refine c_seq ?_ | refine c_region ?_ | refine s_nil ?_ | refine s_assign (by exact rfl) (by exact rfl) ?_ | refine s_q rfl rfl (by exact rfl) (q_iface rfl (by exact rfl)).q ?_ | fail
  refine o_call (vs := [.string lineB, .int .i64 3, .iface 23 (.int .i64 6)]) (by exact rfl) (by exact rfl) (fun w h => WrapK_ok lineB 3 6 w (by decide)) ?_
  rintro v L' ⟨nb, rfl, rfl⟩
  repeat' first
    | refine k_then ?_ | refine c_seq ?_ | refine c_region ?_ | refine s_nil ?_ | refine s_move (by exact rfl) (by exact rfl) ?_ | refine s_assign (by exact rfl) (by exact rfl) ?_ | refine o_alloc (by exact rfl) (fun b => ?_) | refine w_move (by exact rfl) (by exact rfl) (by exact rfl) (by exact rfl) ?_ | refine g_on (by exact rfl) (by exact rfl) ?_ | refine s_q rfl rfl (by exact rfl) (q_iface rfl (by exact rfl)).q ?_ | refine s_q rfl rfl (by exact rfl) (q_nonnil_f rfl (by exact rfl)).q ?_ | fail
  refine s_lend [boxHP b 29 [.pointer none]] _ (by exact rfl) (by exact rfl) (by exact rfl) (fun w S h => AsF_ok (.iface 23 (.int .i64 6)) ⟨nb, lineB, 3⟩ [] b _ w S (hg.lent h) h.own) ?_
  rintro u L' ⟨rfl, rfl⟩
  repeat' first
    | refine s_move (by exact rfl) (by exact rfl) ?_ | refine s_pick_t (by exact rfl) (by exact rfl) (by exact rfl) ?_ | refine w_ld_box (by exact rfl) (by exact rfl) (by exact rfl) (by exact rfl) (by exact .head _) (by exact rfl) ?_ | refine g_on (by exact rfl) (by exact rfl) ?_ | fail
  refine s_q rfl rfl (by exact rfl) (q_pne_f rfl (by exact rfl)).q ?_
  repeat' first
    | refine s_move (by exact rfl) (by exact rfl) ?_ | refine s_pick_t (by exact rfl) (by exact rfl) (by exact rfl) ?_ | refine w_ld_box (by exact rfl) (by exact rfl) (by exact rfl) (by exact rfl) (by exact .head _) (by exact rfl) ?_ | refine g_on (by exact rfl) (by exact rfl) ?_ | fail
  refine s_call (vs := [.pointer (some ⟨nb, 0, none⟩)]) (by exact rfl) (by exact rfl) (fun w h => FError_ok 6 [] ⟨nb, lineB, 3⟩ w (ht.old h) ⟨rb_own h (.tail _ (.head _)), trivial⟩ (fun y hy => by
    obtain rfl := List.mem_singleton.1 hy
    exact ⟨by show (-9223372036854775808 : Int) ≤ 3; decide, by show (3 : Int) ≤ 9223372036854775807; decide⟩) (by rw [show ndOf [(⟨nb, lineB, 3⟩ : Nd)] = [(lineB, 3)] from rfl, line_text]; decide)) ?_
  rw [show ndOf [(⟨nb, lineB, 3⟩ : Nd)] = [(lineB, 3)] from rfl, line_text]
  repeat' first
    | refine s_move (by exact rfl) (by exact rfl) ?_ | refine s_pick_t (by exact rfl) (by exact rfl) (by exact rfl) ?_ | refine g_on (by exact rfl) (by exact rfl) ?_ | refine s_q rfl rfl (by exact rfl) (q_seq rfl (by exact rfl) (by exact rfl)).q ?_ | fail
  rw [beq_self_eq_true]
  repeat' first
    | refine w_move (by exact rfl) (by exact rfl) (by exact rfl) (by exact rfl) ?_ | refine g_on (by exact rfl) (by exact rfl) ?_ | fail
  refine s_call (vs := [chV (.iface 23 (.int .i64 6)) [⟨nb, lineB, 3⟩]]) (by exact rfl) (by exact rfl) (fun w h => FOf_ok 6 [⟨nb, lineB, 3⟩] w (hg.old h) ⟨rb_own h (.tail _ (.head _)), trivial⟩) ?_
  repeat' first
    | refine s_move (by exact rfl) (by exact rfl) ?_ | refine s_pick_t (by exact rfl) (by exact rfl) (by exact rfl) ?_ | (refine g_case (by exact rfl) (by exact rfl) (fun h => ?_) (fun h => ?_) <;> try (exfalso; omega)) | refine w_eql (by exact rfl) (by exact rfl) (by exact rfl) (by exact rfl) (by exact rfl) ?_ | refine g_on (by exact rfl) (by exact rfl) ?_ | fail
  refine s_call (by exact rfl) (by exact rfl) (fun w h => WrapNil_ok _ _ w) ?_
  repeat' first
    | refine s_move (by exact rfl) (by exact rfl) ?_ | refine s_pick_t (by exact rfl) (by exact rfl) (by exact rfl) ?_ | refine g_on (by exact rfl) (by exact rfl) ?_ | refine s_q rfl rfl (by exact rfl) (q_iface rfl (by exact rfl)).q ?_ | refine s_q rfl rfl (by exact rfl) (q_nil_t rfl (by exact rfl)).q ?_ | fail
  refine s_call (by exact rfl) (by exact rfl) (fun w h => WrapOK_ok _ _ w) ?_
  repeat' first
    | refine k_then ?_ | refine s_nil ?_ | refine s_assign (by exact rfl) (by exact rfl) ?_ | refine s_pick_t (by exact rfl) (by exact rfl) (by exact rfl) ?_ | refine c_ret ?_ | refine g_on (by exact rfl) (by exact rfl) ?_ | refine s_q rfl rfl (by exact rfl) (q_nil_t rfl (by exact rfl)).q ?_ | fail
  exact ret1 [] rfl rfl rfl ⟨rfl, rfl⟩
end Go.Proofs.YtllkoinbfegonaaDoor
end
section
set_option linter.unusedVariables false
namespace Go.Sl
open Go Go.RowKit
end Go.Sl
namespace Go.Proofs.YtllkoinbfegonaaDoor
open Go Go.RowKit Go.Sl
set_option maxRecDepth 100000
set_option maxHeartbeats 8000000
set_option linter.unusedVariables false
set_option linter.unusedSimpArgs false
attribute [local irreducible] Code.wp wpList bodyPost wpQuiet Exit.then Exit.inBlock Post wpAnyH wpOp
instance : BoTy Tryd.prog 4 := ⟨Tryd.underlying4⟩
end Go.Proofs.YtllkoinbfegonaaDoor
end
section
namespace Go.Sl
open Go.RowKit
section
variable {P : Program} {w0 : World} {S0 : FS} {n : Nat} {F : List (Nat × Value)} {L Lk : List HP} {rest : List Oper} {ops : Array Oper} {Q : Exit → Act → World → Prop} {d i : Nat} {ty : TypeId} {ps : String} {af : Array Edge} {plan : List PI} [HasD n]
end
end Go.Sl
end
section
namespace Go.Sl
open Go.RowKit
/-- an integer type -/
class InTy (P : Program) (t : TypeId) (k : outParam IntKind) : Prop where
  u : P.underlying t = some (.int k)
section
variable {P : Program} {w0 : World} {S0 : FS} {n : Nat} {F : List (Nat × Value)} {L Lk : List HP} {rest : List Oper} {ops : Array Oper} {Q : Exit → Act → World → Prop} {d i : Nat} {v : Value} {plan : List PI} {ty : TypeId} {ps : String} {af : Array Edge} [HasD n]
variable {o : Oper} {x y : Operand} {t t' : TypeId} {a b r : Int} {k k' : IntKind}
theorem q_nilc {p : Addr} (ho : o.op = .nilCheck x) (hx : ev F x = some (.pointer (some p))) : R1 P w0 S0 n F L o (.pointer (some p)) :=
  q_of_pure fun ac hf w => by simp [execOp, ho, hf.eval hx]
theorem s_nilc {p : Addr} (hn : Nat.blt d n = true) (hx : ev F x = some (.pointer (some p))) (h : Reach w0 S0 n ((d, .pointer (some p)) :: F) L (wpList P ops Q rest)) : Reach w0 S0 n F L (wpList P ops Q (⟨some d, .nilCheck x, ty, ps, af, none⟩ :: rest)) := s_q rfl rfl hn (q_nilc rfl hx).q h
end
end Go.Sl
end
section
set_option linter.unusedVariables false
namespace Go.Sl
open Go Go.RowKit
section
variable {P : Program} {w0 : World} {S0 : FS} {n : Nat} {F : List (Nat × Value)} {L Lk : List HP} {o : Oper} {rest : List Oper} {ops : Array Oper} {Q : Exit → Act → World → Prop} {d i : Nat} {x : Operand} {plan : List PI} {ty : TypeId} {ps : String} {af : Array Edge} [HasD n]
end
end Go.Sl
end
section
set_option linter.unusedVariables false
namespace Go.Sl
open Go Go.RowKit
section
variable {P : Program} {w0 : World} {S0 : FS} {n : Nat} {F : List (Nat × Value)} {L : List HP} {rest : List Oper} {ops : Array Oper} {Q : Exit → Act → World → Prop} {d : Nat}
theorem s_lendv {f : FuncId} {c : Operand} {xs : Array Operand} {ts : Array TypeId} {vs pre caps : List Value} {G : Value → List HP → Prop} {ty : TypeId} {ps : String} {af : Array Edge} (L0 Lr : List HP) (hLL : L = L0 ++ Lr) (hn : Nat.blt d n = true) (hcv : ev F c = some (.func (.func f) pre.toArray caps.toArray)) (hvs : xs.toList.map (ev F) = vs.map some) [T : FnTy P f]
    (hc : ∀ w S, Lent w0 S0 L0 Lr S w → Calls P f (pre ++ vs ++ caps).toArray w (Post w S G)) (h : ∀ v L', G v L' → Reach w0 S0 n ((d, v) :: F) (L' ++ Lr) (wpList P ops Q rest)) : Reach w0 S0 n F L (wpList P ops Q (⟨some d, .call { callee := .value c, args := xs, argTypes := ts }, ty, ps, af, none⟩ :: rest)) :=
  s_of_l rfl fun R hR => l_lendv L0 Lr hLL rfl rfl hn hcv hvs hc fun v L' g => (h v L' g).imp hR
end
end Go.Sl
namespace Go.Proofs.YtllkoinbfegonaaDoor
open Go Go.RowKit Go.Sl Go.Stop Go.Extern.Stop Go.Extern
set_option maxRecDepth 100000
set_option maxHeartbeats 8000000
set_option linter.unusedVariables false
set_option linter.unusedSimpArgs false
attribute [local irreducible] Code.wp wpList bodyPost wpQuiet Exit.then Exit.inBlock Post wpAnyH wpOp
theorem TrailNil_ok (w : World) :
    Calls Tryd.prog 20 #[.nilIface] w (Post w No (Just (.slice none 0 0))) := by
  have hE : ∀ (fv : Value) (w : World), Calls Tryd.prog 38 #[.nilIface, fv] w (Post w No (Just (.tuple #[]))) := fun fv w => by
    refine enter0 (vs := [_, _]) Tryd.func38 rfl Tryd.ntmps38 rfl ?_
    repeat' first
      | refine c_block ?_ | fail
    refine c_loop (fun _ : Unit => True) (fun _ => [(0, .nilIface)]) (fun _ => []) (fun _ => 0) () [] trivial rfl ⟨rfl, trivial⟩ ?_
    intro _ _
    repeat' first
      | refine k_then ?_ | refine c_seq ?_ | refine c_region ?_ | refine s_nil ?_ | refine s_move (by exact rfl) (by exact rfl) ?_ | refine c_exit ?_ | refine k_then_exit ?_ | refine k_blk_eq ?_ | refine c_cond_f (by exact rfl) ?_ | refine s_q rfl rfl (by exact rfl) (q_nonnil_t rfl (by exact rfl)).q ?_ | fail
    exact ret0 [] rfl rfl ⟨rfl, rfl⟩
  refine enter0 (vs := [_]) Tryd.func20 rfl Tryd.ntmps20 rfl ?_
  repeat' first
    | refine k_then ?_ | refine c_seq ?_ | refine c_region ?_ | refine s_nil ?_ | refine s_move (by exact rfl) (by exact rfl) ?_ | refine o_alloc (by exact rfl) (fun b => ?_) | fail
  refine s_q rfl rfl (by exact rfl) (q_mkf (vs := []) (us := [_]) rfl (by exact rfl) (by exact rfl)).q ?_
  refine s_call (vs := [_, _]) (by exact rfl) (by exact rfl) (fun w h => hE _ w) ?_
  repeat' first
    | refine k_then ?_ | refine c_seq ?_ | refine c_region ?_ | refine s_nil ?_ | refine s_ld_box (by exact rfl) (by exact rfl) (by exact .head _) (by exact rfl) ?_ | fail
  refine o_st_box (i := 0) (by exact rfl) (by exact rfl) (by exact rfl) rfl (by simp [Value.cells]) ?_
  repeat' first
    | refine k_then ?_ | refine s_nil ?_ | refine c_ret ?_ | fail
  exact retL [.cell 2 46] [.slice none 0 0] [] rfl ⟨res_cell (cs := [.slice none 0 0]) (off := 0) rfl (.head _) rfl, trivial⟩ (by exact rfl) ⟨rfl, rfl⟩
theorem place1_ok (x : Nd) (c : Value) (wb ab : Nat) (wh : ByteArray) (a : Value) (w : World) (S : FS) (hx : RB w S x.b 37 [.string x.s, .int .i64 x.i, c]) (hs : sats [boxHP wb 9 [.string wh], boxHP ab 3 [a]] S w) :
    Calls Tryd.prog 40 #[.pointer (some ⟨x.b, 0, none⟩), .pointer (some ⟨wb, 0, none⟩), .pointer (some ⟨ab, 0, none⟩)] w (Post w S fun u L' => u = .bool (!(x.s.toList == wh.toList)) ∧ L' = [boxHP wb 9 [.string wh], boxHP ab 3 [if x.s.toList == wh.toList then .int .i64 x.i else a]]) := by
  refine enter (vs := [_, _, _]) Tryd.func40 rfl Tryd.ntmps40 rfl hs ?_
  repeat' first
    | refine k_then ?_ | refine c_seq ?_ | refine c_region ?_ | refine s_nil ?_ | refine s_assign (by exact rfl) (by exact rfl) ?_ | fail
  refine c_draw (by kernel_rfl) (by kernel_rfl) ?_
  repeat' first
    | refine d_nil ?_ | refine d_move (by exact rfl) (by exact rfl) ?_ | refine d_fa (by exact rfl) (by exact rfl) ?_ | refine d_ld_box (by exact rfl) (by exact rfl) (by exact .head _) (by exact rfl) ?_ | refine d_ld_rb (by exact rfl) (by exact rfl) (by assumption) (by exact rfl) ?_ | refine d_q rfl rfl (by exact rfl) (q_nilck rfl (by exact rfl)).q ?_ | refine d_q rfl rfl (by exact rfl) (q_seq rfl (by exact rfl) (by exact rfl)).q ?_ | fail
  cases hb : x.s.toList == wh.toList with
  | false =>
    repeat' first
      | refine k_then ?_ | refine c_seq ?_ | refine c_region ?_ | refine s_nil ?_ | refine s_assign (by exact rfl) (by exact rfl) ?_ | refine c_skip ?_ | refine c_ret ?_ | refine c_cond_f (by exact rfl) ?_ | fail
    exact ret1 [0, 0] rfl rfl rfl ⟨rfl, rfl⟩
  | true =>
    repeat' first
      | refine k_then ?_ | refine c_seq ?_ | refine c_region ?_ | refine s_move (by exact rfl) (by exact rfl) ?_ | refine s_fa (by exact rfl) (by exact rfl) ?_ | refine s_ld_rb (by exact rfl) (by exact rfl) (by assumption) (by exact rfl) ?_ | refine c_cond_t (by exact rfl) ?_ | refine s_nilc (by exact rfl) (by exact rfl) ?_ | fail
    refine o_st_box (i := 1) (by exact rfl) (by exact rfl) (by exact rfl) rfl (by simp [Value.cells]) ?_
    repeat' first
      | refine k_then ?_ | refine c_seq ?_ | refine c_region ?_ | refine s_nil ?_ | refine s_assign (by exact rfl) (by exact rfl) ?_ | refine c_ret ?_ | refine k_then_ret ?_ | fail
    exact ret1 [0, 0] rfl rfl rfl ⟨rfl, rfl⟩
end Go.Proofs.YtllkoinbfegonaaDoor
end
section
set_option linter.unusedVariables false
namespace Go.Proofs.YtllkoinbfegonaaDoor
open Go Go.RowKit Go.Sl Go.Stop Go.Extern.Stop Go.Extern
set_option maxRecDepth 100000
set_option maxHeartbeats 8000000
set_option linter.unusedVariables false
set_option linter.unusedSimpArgs false
attribute [local irreducible] Code.wp wpList bodyPost wpQuiet Exit.then Exit.inBlock Post wpAnyH wpOp
instance : NoIf Tryd.prog 82 := ⟨⟨_, Tryd.underlying82, fun _ h => by cases h⟩⟩
/-- an error of errors.New -/
abbrev esE (b : Nat) : Value := .iface 82 (.pointer (some ⟨b, 0, none⟩))
theorem tE (v : Value) (w : World) : (ReflectliteType.typeOf #[.iface 82 v]).run Tryd.prog w = .ok (rT 82) w := by kernel_rfl
theorem aEK (w : World) : (ReflectliteType.relation "AssignableTo" ReflectliteType.assignableTo #[.agg #[hd 82], rT 23]).run Tryd.prog w = .ok (.bool false) w := by kernel_rfl
theorem cE (w : World) : (ReflectliteType.method (fun t => do Rtype.noPackHeld "Comparable" t; pure (.bool (← typeInfo t).comparable)) #[.agg #[hd 82]]).run Tryd.prog w = .ok (.bool true) w := by kernel_rfl
theorem asEK (v : Value) (w : World) : (Instr.typeAssert (.iface 82 v) 27 23 true).run Tryd.prog w = .ok (.tuple #[.int .i64 0, .bool false]) w := by kernel_rfl
theorem asEAs (v : Value) (w : World) : (Instr.typeAssert (.iface 82 v) 27 112 true).run Tryd.prog w = .ok (.tuple #[.nilIface, .bool false]) w := run_typeAssert_lacksB Tryd.underlying112 (by kernel_rfl) (by kernel_rfl) v _ w
theorem asEUn (v : Value) (w : World) : (Instr.typeAssert (.iface 82 v) 27 115 true).run Tryd.prog w = .ok (.tuple #[.nilIface, .bool false]) w := run_typeAssert_lacksB Tryd.underlying115 (by kernel_rfl) (by kernel_rfl) v _ w
theorem asEUs (v : Value) (w : World) : (Instr.typeAssert (.iface 82 v) 27 116 true).run Tryd.prog w = .ok (.tuple #[.nilIface, .bool false]) w := run_typeAssert_lacksB Tryd.underlying116 (by kernel_rfl) (by kernel_rfl) v _ w
theorem eqEE (a : Addr) (w : World) : (binOp .eql 27 (.iface 82 (.pointer (some a))) (.iface 82 (.pointer (some a)))).run Tryd.prog w = .ok (.bool true) w := by
  have hi : ∃ i, Tryd.prog.info? 82 = some i ∧ i.comparable = true := ⟨_, rfl, by kernel_rfl⟩
  obtain ⟨i, hi, hc⟩ := hi
  have h : ∀ d : Nat, (Op.equalIn (d + 2) 27 (.iface 82 (.pointer (some a))) (.iface 82 (.pointer (some a)))).run Tryd.prog w = .ok true w := fun d => by
    simp [Op.equalIn, run_underlying Tryd.underlying27, run_underlying Tryd.underlying82, typeInfo, hi, hc, run_sameAddr_same]
  simp only [binOp]
  simp [Op.equal, Op.maxDepth, h 9998]
theorem eqFE (v u : Value) (w : World) : (binOp .eql 27 (.iface 29 v) (.iface 82 u)).run Tryd.prog w = .ok (.bool false) w := run_eql_iface_types _ _ v u Tryd.underlying27 (by decide) w
/-- such an error is made -/
theorem New_ok (s : ByteArray) (w : World) : Calls Tryd.prog 18 #[.string s] w (Post w No fun u L' => ∃ b, u = esE b ∧ L' = [boxHP b 84 [.string s]]) := by
  refine enter0 (vs := [_]) Tryd.func18 rfl Tryd.ntmps18 rfl ?_
  repeat' first
    | refine k_then ?_ | refine c_seq ?_ | refine c_region ?_ | refine s_nil ?_ | refine s_move (by exact rfl) (by exact rfl) ?_ | refine s_assign (by exact rfl) (by exact rfl) ?_ | fail
  refine o_build [(0, .string s, [.string s])] (by exact rfl) (by exact rfl) (by simp [Value.cells]) (by exact rfl) ?_
  repeat' first
    | refine k_then ?_ | refine s_nil ?_ | refine s_assign (by exact rfl) (by exact rfl) ?_ | refine o_box (by exact rfl) (by exact rfl) (fun b => ?_) | refine c_ret ?_ | refine s_q rfl rfl (by exact rfl) (q_iface rfl (by exact rfl)).q ?_ | fail
  exact ret1 [0] rfl rfl rfl ⟨b, rfl, rfl⟩
theorem WrapE_ok (s : ByteArray) (i : Int) (eb : Nat) (w : World) : Calls Tryd.prog 19 #[.string s, .int .i64 i, esE eb] w (Post w No (Wrapped (esE eb) [] s i)) := by
  refine enter0 (vs := [_, _, _]) Tryd.func19 rfl Tryd.ntmps19 rfl ?_
  repeat' first
    | refine k_then ?_ | refine c_seq ?_ | refine c_region ?_ | refine s_nil ?_ | refine s_move (by exact rfl) (by exact rfl) ?_ | refine s_assign (by exact rfl) (by exact rfl) ?_ | refine c_skip ?_ | refine c_cond_f (by exact rfl) ?_ | refine s_q rfl rfl (by exact rfl) (q_nil_f rfl (by exact rfl)).q ?_ | fail
  refine s_q rfl rfl (by exact rfl) (q_assert (asEK _) rfl (by exact rfl)).q ?_
  repeat' first
    | refine k_then ?_ | refine c_seq ?_ | refine c_region ?_ | refine s_nil ?_ | refine s_move (by exact rfl) (by exact rfl) ?_ | refine s_assign (by exact rfl) (by exact rfl) ?_ | refine s_extract (by exact rfl) (by exact rfl) (by exact rfl) ?_ | refine s_pick_f (by exact rfl) (by exact rfl) (by exact rfl) ?_ | refine c_skip ?_ | refine c_cond_f (by exact rfl) ?_ | refine g_skip (by exact rfl) (by exact rfl) (by exact rfl) (by exact rfl) ?_ | fail
  refine o_build [(0, .string s, [.string s]), (1, .int .i64 i, [.int .i64 i]), (2, esE eb, [esE eb])] (by exact rfl) (by exact rfl) (by simp [Value.cells]) (by exact rfl) ?_
  repeat' first
    | refine k_then ?_ | refine s_nil ?_ | refine s_assign (by exact rfl) (by exact rfl) ?_ | refine o_box (by exact rfl) (by exact rfl) (fun b => ?_) | refine c_ret ?_ | refine s_q rfl rfl (by exact rfl) (q_iface rfl (by exact rfl)).q ?_ | fail
  exact ret1 [0] rfl rfl rfl ⟨b, rfl, rfl⟩
theorem asE_ok (eb : Nat) (r : List Nd) (tb vb : Nat) (old : Value) (w : World) (S : FS) (hr : ChR w S (esE eb) r) (hv : RB w S vb 79 [.pointer (some ⟨tb, 0, none⟩)]) (hs : sats [boxHP tb 23 [old]] S w) :
    Calls Tryd.prog 33 #[chV (esE eb) r, .iface 79 (.pointer (some ⟨tb, 0, none⟩)), vlP vb, rT 23] w
      (Post w S fun u L' => u = .bool false ∧ L' = [boxHP tb 23 [old]]) := by
  refine enter (vs := [_, _, _, _]) Tryd.func33 rfl Tryd.ntmps33 rfl hs ?_
  repeat' first
    | refine k_then ?_ | refine c_seq ?_ | refine c_region ?_ | refine s_nil ?_ | refine s_assign (by exact rfl) (by exact rfl) ?_ | refine o_box (by exact rfl) (by exact rfl) (fun b => ?_) | refine c_block ?_ | fail
  refine c_loop (fun r' : List Nd => ChR w S (esE eb) r') (fun r' => [(0, chV (esE eb) r'), (1, .iface 79 (.pointer (some ⟨tb, 0, none⟩))), (3, rT 23), (6, .pointer (some ⟨b, 0, none⟩))]) (fun _ => [boxHP b 70 [hd 79, .pointer (some ⟨vb, 0, none⟩), .int .u64 150], boxHP tb 23 [old]]) List.length r [0, 0] hr rfl ⟨rfl, rfl, rfl, rfl, trivial⟩ ?_
  intro r' hr'
  cases r' with
  | nil =>
    rw [show chV (esE eb) [] = .iface 82 (.pointer (some ⟨eb, 0, none⟩)) from rfl]
    repeat' first
      | refine c_seq ?_ | refine c_region ?_ | refine s_move (by exact rfl) (by exact rfl) ?_ | refine c_block ?_ | fail
    refine s_q rfl rfl (by exact rfl) (q_ext (fun w _ => cTypeOf _ _ (tE _) w) rfl (by exact rfl)).q ?_
    repeat' first
      | refine s_move (by exact rfl) (by exact rfl) ?_ | fail
    refine s_q rfl rfl (by exact rfl) (q_inv (fun w => iAssi _ _ _ aEK w) rfl (by exact rfl) (by exact rfl)).q ?_
    repeat' first
      | refine k_then ?_ | refine c_seq ?_ | refine c_region ?_ | refine s_nil ?_ | refine s_move (by exact rfl) (by exact rfl) ?_ | refine c_skip ?_ | refine c_cond_f (by exact rfl) ?_ | fail
    refine s_q rfl rfl (by exact rfl) (q_assert (asEAs _) rfl (by exact rfl)).q ?_
    repeat' first
      | refine k_then ?_ | refine c_seq ?_ | refine c_region ?_ | refine s_nil ?_ | refine s_move (by exact rfl) (by exact rfl) ?_ | refine s_assign (by exact rfl) (by exact rfl) ?_ | refine s_extract (by exact rfl) (by exact rfl) (by exact rfl) ?_ | refine s_pick_f (by exact rfl) (by exact rfl) (by exact rfl) ?_ | refine c_block ?_ | refine c_skip ?_ | refine c_cond_f (by exact rfl) ?_ | refine g_skip (by exact rfl) (by exact rfl) (by exact rfl) (by exact rfl) ?_ | fail
    refine s_q rfl rfl (by exact rfl) (q_assert (asEUn _) rfl (by exact rfl)).q ?_
    repeat' first
      | refine k_then ?_ | refine c_seq ?_ | refine c_region ?_ | refine s_nil ?_ | refine s_extract (by exact rfl) (by exact rfl) (by exact rfl) ?_ | refine c_cond_f (by exact rfl) ?_ | fail
    refine s_q rfl rfl (by exact rfl) (q_assert (asEUs _) rfl (by exact rfl)).q ?_
    repeat' first
      | refine k_then ?_ | refine c_seq ?_ | refine c_region ?_ | refine s_nil ?_ | refine s_assign (by exact rfl) (by exact rfl) ?_ | refine s_extract (by exact rfl) (by exact rfl) (by exact rfl) ?_ | refine c_ret ?_ | refine k_then_ret ?_ | refine k_blk_ret ?_ | refine c_cond_f (by exact rfl) ?_ | fail
    exact ret1 [1] rfl rfl rfl ⟨rfl, rfl⟩
  | cons x r' =>
    rw [show chV (esE eb) (x :: r') = .iface 29 (.pointer (some ⟨x.b, 0, none⟩)) from rfl]
    repeat' first
      | refine c_seq ?_ | refine c_region ?_ | refine s_move (by exact rfl) (by exact rfl) ?_ | refine c_block ?_ | fail
    refine s_q rfl rfl (by exact rfl) (q_ext (fun w _ => cTypeOf _ _ (tF _) w) rfl (by exact rfl)).q ?_
    repeat' first
      | refine s_move (by exact rfl) (by exact rfl) ?_ | fail
    refine s_q rfl rfl (by exact rfl) (q_inv (fun w => iAssi _ _ _ aFK w) rfl (by exact rfl) (by exact rfl)).q ?_
    repeat' first
      | refine k_then ?_ | refine c_seq ?_ | refine c_region ?_ | refine s_nil ?_ | refine s_move (by exact rfl) (by exact rfl) ?_ | refine c_skip ?_ | refine c_cond_f (by exact rfl) ?_ | fail
    refine s_q rfl rfl (by exact rfl) (q_assert (asFAs _) rfl (by exact rfl)).q ?_
    repeat' first
      | refine k_then ?_ | refine c_seq ?_ | refine c_region ?_ | refine s_nil ?_ | refine s_move (by exact rfl) (by exact rfl) ?_ | refine s_assign (by exact rfl) (by exact rfl) ?_ | refine s_extract (by exact rfl) (by exact rfl) (by exact rfl) ?_ | refine s_pick_f (by exact rfl) (by exact rfl) (by exact rfl) ?_ | refine c_block ?_ | refine c_skip ?_ | refine c_cond_f (by exact rfl) ?_ | refine g_skip (by exact rfl) (by exact rfl) (by exact rfl) (by exact rfl) ?_ | fail
    refine s_q rfl rfl (by exact rfl) (q_assert (asFUn _) rfl (by exact rfl)).q ?_
    repeat' first
      | refine k_then ?_ | refine c_seq ?_ | refine c_region ?_ | refine s_nil ?_ | refine s_move (by exact rfl) (by exact rfl) ?_ | refine s_assign (by exact rfl) (by exact rfl) ?_ | refine s_extract (by exact rfl) (by exact rfl) (by exact rfl) ?_ | refine c_cond_t (by exact rfl) ?_ | fail
    refine s_q rfl rfl (by exact rfl) (q_invk (iUnwrap _) (fun w h => FUnwrap_ok _ _ _ w (rb_old h hr'.1) rfl) rfl (by exact rfl) (by exact rfl)) ?_
    repeat' first
      | refine k_then ?_ | refine c_seq ?_ | refine c_region ?_ | refine s_nil ?_ | refine s_move (by exact rfl) (by exact rfl) ?_ | refine s_assign (by exact rfl) (by exact rfl) ?_ | fail
    obtain ⟨tt, uu, e⟩ := chV_if (bv := esE eb) ⟨_, _, rfl⟩ r'
    refine s_q rfl rfl (by exact rfl) (q_nil_f rfl (by exact congrArg some e)).q ?_
    repeat' first
      | refine k_then ?_ | refine s_nil ?_ | refine c_skip ?_ | refine k_blk ?_ | refine c_cond_f (by exact rfl) ?_ | fail
    refine c_round r' [0, 0] rfl ⟨rfl, rfl, rfl, rfl, trivial⟩ hr'.2 (Nat.lt_succ_self _)
theorem AsE_ok (eb : Nat) (r : List Nd) (tb : Nat) (old : Value) (w : World) (S : FS) (hg : RC w S 0 (rT 27)) (hr : ChR w S (esE eb) r) (hs : sats [boxHP tb 23 [old]] S w) :
    Calls Tryd.prog 11 #[chV (esE eb) r, .iface 79 (.pointer (some ⟨tb, 0, none⟩))] w
      (Post w S fun u L' => u = .bool false ∧ L' = [boxHP tb 23 [old]]) := by
  obtain ⟨tt, uu, e⟩ := chV_if (bv := esE eb) ⟨_, _, rfl⟩ r
  refine enter (vs := [_, _]) Tryd.func11 rfl Tryd.ntmps11 rfl hs ?_
  repeat' first
    | refine k_then ?_ | refine c_seq ?_ | refine c_region ?_ | refine s_nil ?_ | refine s_move (by exact rfl) (by exact rfl) ?_ | refine s_assign (by exact rfl) (by exact rfl) ?_ | fail
  refine s_q rfl rfl (by exact rfl) (q_nil_f rfl (by exact congrArg some e)).q ?_
  repeat' first
    | refine k_then ?_ | refine c_seq ?_ | refine c_region ?_ | refine s_nil ?_ | refine s_move (by exact rfl) (by exact rfl) ?_ | refine c_skip ?_ | refine c_cond_f (by exact rfl) ?_ | refine s_q rfl rfl (by exact rfl) (q_nil_f rfl (by exact rfl)).q ?_ | fail
  refine o_ext (g := fun b => .agg #[hd 79, .pointer (some ⟨b, 0, none⟩), .int .u64 150]) (fun w _ => cValPK tb w) (by exact rfl) (by exact rfl) (fun vb => ?_)
  repeat' first
    | refine o_alloc (by exact rfl) (fun b => ?_) | fail
  refine o_stk_box (i := 0) (us := [hd 79, .pointer (some ⟨vb, 0, none⟩), .int .u64 150]) (by exact rfl) (by exact rfl) (by exact rfl) (by exact rfl) (by exact rfl) (by
    intro u hu
    simp only [List.mem_cons, List.mem_nil_iff, or_false] at hu
    rcases hu with rfl | rfl | rfl <;> rfl) (by decide) ?_
  repeat' first
    | refine k_then ?_ | refine c_seq ?_ | refine c_region ?_ | refine s_nil ?_ | refine s_ldk_box (by exact rfl) (by exact rfl) (by exact .head _) (by exact rfl) (by exact rfl) ?_ | fail
  refine s_q rfl rfl (by exact rfl) (q_ext (fun w _ => cTypePK vb w) rfl (by exact rfl)).q ?_
  repeat' first
    | refine k_then ?_ | refine c_seq ?_ | refine c_region ?_ | refine s_nil ?_ | refine s_move (by exact rfl) (by exact rfl) ?_ | refine s_assign (by exact rfl) (by exact rfl) ?_ | fail
  refine s_q rfl rfl (by exact rfl) (q_inv (iKind _ _ kPK) rfl (by exact rfl) (by exact rfl)).q ?_
  repeat' first
    | refine s_move (by exact rfl) (by exact rfl) ?_ | refine s_neq (by exact rfl) (by exact rfl) (by exact rfl) ?_ | (refine g_case (by exact rfl) (by exact rfl) (fun h => ?_) (fun h => ?_) <;> try (exfalso; omega)) | refine w_ldk_box (by exact rfl) (by exact rfl) (by exact rfl) (by exact rfl) (by exact .head _) (by exact rfl) (by exact rfl) ?_ | refine g_on (by exact rfl) (by exact rfl) ?_ | fail
  refine s_q rfl rfl (by exact rfl) (q_ext (fun w h => cNilPK vb tb w (box_cell h (.tail _ (.head _)) rfl).1) rfl (by exact rfl)).q ?_
  repeat' first
    | refine k_then ?_ | refine c_seq ?_ | refine c_region ?_ | refine s_nil ?_ | refine s_move (by exact rfl) (by exact rfl) ?_ | refine s_pick_f (by exact rfl) (by exact rfl) (by exact rfl) ?_ | refine c_skip ?_ | refine c_cond_f (by exact rfl) ?_ | fail
  refine s_q rfl rfl (by exact rfl) (q_inv (iElem _ _ eK) rfl (by exact rfl) (by exact rfl)).q ?_
  repeat' first
    | refine k_then ?_ | refine c_seq ?_ | refine c_region ?_ | refine s_nil ?_ | refine s_move (by exact rfl) (by exact rfl) ?_ | refine s_assign (by exact rfl) (by exact rfl) ?_ | fail
  refine s_q rfl rfl (by exact rfl) (q_inv (iKind _ _ kK) rfl (by exact rfl) (by exact rfl)).q ?_
  repeat' first
    | refine s_move (by exact rfl) (by exact rfl) ?_ | refine s_neq (by exact rfl) (by exact rfl) (by exact rfl) ?_ | (refine g_case (by exact rfl) (by exact rfl) (fun h => ?_) (fun h => ?_) <;> try (exfalso; omega)) | refine w_move (by exact rfl) (by exact rfl) (by exact rfl) (by exact rfl) ?_ | refine g_on (by exact rfl) (by exact rfl) ?_ | fail
  refine s_q rfl rfl (by exact rfl) (q_ld_rc hg rfl (by exact rfl)).q ?_
  repeat' first
    | refine g_on (by exact rfl) (by exact rfl) ?_ | fail
  refine s_q rfl rfl (by exact rfl) (q_inv (iImpl _ _ _ iK) rfl (by exact rfl) (by exact rfl)).q ?_
  repeat' first
    | refine k_then ?_ | refine c_seq ?_ | refine c_region ?_ | refine s_nil ?_ | refine s_move (by exact rfl) (by exact rfl) ?_ | refine s_pick_t (by exact rfl) (by exact rfl) (by exact rfl) ?_ | refine s_ldk_box (by exact rfl) (by exact rfl) (by exact .head _) (by exact rfl) (by exact rfl) ?_ | refine c_skip ?_ | refine c_cond_f (by exact rfl) ?_ | refine w_not (by exact rfl) (by exact rfl) (by exact rfl) (by exact rfl) ?_ | fail
  refine c_pick [2, 0, 0] (by exact rfl) ?_
  refine s_lend [boxHP tb 23 [old]] _ (by exact rfl) (by exact rfl) (by exact rfl) (fun w S h => asE_ok eb r tb vb old w S (hr.lent h) (h.rb_own (.tail _ (.head _))) h.own) ?_
  rintro u L' ⟨rfl, rfl⟩
  repeat' first
    | refine k_then ?_ | refine s_nil ?_ | refine s_assign (by exact rfl) (by exact rfl) ?_ | refine c_ret ?_ | fail
  refine ret1 [0] rfl rfl rfl ⟨rfl, rfl⟩
theorem FOfE_ok (eb : Nat) (r : List Nd) (w : World) (hg : RC w No 0 (rT 27)) (hr : ChR w No (esE eb) r) :
    Calls Tryd.prog 15 #[chV (esE eb) r] w (Post w No (Just (.int .i64 1))) := by
  obtain ⟨tt, uu, e⟩ := chV_if (bv := esE eb) ⟨_, _, rfl⟩ r
  refine enter0 (vs := [_]) Tryd.func15 rfl Tryd.ntmps15 rfl ?_
  repeat' first
    | refine k_then ?_ | refine c_seq ?_ | refine c_region ?_ | refine s_nil ?_ | refine s_move (by exact rfl) (by exact rfl) ?_ | refine s_assign (by exact rfl) (by exact rfl) ?_ | fail
  refine s_q rfl rfl (by exact rfl) (q_nil_f rfl (by exact congrArg some e)).q ?_
  repeat' first
    | refine k_then ?_ | refine c_seq ?_ | refine c_region ?_ | refine s_nil ?_ | refine s_move (by exact rfl) (by exact rfl) ?_ | refine o_alloc (by exact rfl) (fun b => ?_) | refine c_skip ?_ | refine c_cond_f (by exact rfl) ?_ | refine s_q rfl rfl (by exact rfl) (q_iface rfl (by exact rfl)).q ?_ | fail
  refine s_lend [boxHP b 23 [.int .i64 0]] [] (by exact rfl) (by exact rfl) (by exact rfl) (fun w S h => AsE_ok eb r b _ w S (hg.lent h) (hr.lent h) h.own) ?_
  rintro u L' ⟨rfl, rfl⟩
  repeat' first
    | refine k_then ?_ | refine c_seq ?_ | refine c_region ?_ | refine s_nil ?_ | refine s_assign (by exact rfl) (by exact rfl) ?_ | refine c_skip ?_ | refine c_ret ?_ | refine c_cond_f (by exact rfl) ?_ | fail
  exact ret1 [] rfl rfl rfl ⟨rfl, rfl⟩
theorem FIsE0_ok (eb : Nat) (r : List Nd) (w : World) :
    Calls Tryd.prog 16 #[chV (esE eb) r, .int .i64 0] w (Post w No (Just (.bool false))) := by
  obtain ⟨tt, uu, e⟩ := chV_if (bv := esE eb) ⟨_, _, rfl⟩ r
  refine enter0 (vs := [_, _]) Tryd.func16 rfl Tryd.ntmps16 rfl ?_
  repeat' first
    | refine k_then ?_ | refine c_seq ?_ | refine c_region ?_ | refine s_nil ?_ | refine s_move (by exact rfl) (by exact rfl) ?_ | refine s_assign (by exact rfl) (by exact rfl) ?_ | fail
  refine s_q rfl rfl (by exact rfl) (q_nil_f rfl (by exact congrArg some e)).q ?_
  repeat' first
    | refine k_then ?_ | refine c_seq ?_ | refine c_region ?_ | refine s_nil ?_ | refine s_move (by exact rfl) (by exact rfl) ?_ | refine s_pick_f (by exact rfl) (by exact rfl) (by exact rfl) ?_ | (refine c_cond_p (by exact rfl) (fun h => ?_) (fun h => ?_) <;> try (exfalso; omega)) | refine w_move (by exact rfl) (by exact rfl) (by exact rfl) (by exact rfl) ?_ | refine w_eql (by exact rfl) (by exact rfl) (by exact rfl) (by exact rfl) (by exact rfl) ?_ | fail
  refine s_q rfl rfl (by exact rfl) (q_nil_f rfl (by exact congrArg some e)).q ?_
  repeat' first
    | refine k_then ?_ | refine s_nil ?_ | refine s_move (by exact rfl) (by exact rfl) ?_ | refine s_assign (by exact rfl) (by exact rfl) ?_ | refine s_pick_f (by exact rfl) (by exact rfl) (by exact rfl) ?_ | refine c_ret ?_ | refine k_then_ret ?_ | refine g_skip (by exact rfl) (by exact rfl) (by exact rfl) (by exact rfl) ?_ | fail
  exact ret1 [] rfl rfl rfl ⟨rfl, rfl⟩
theorem isE_ok (eb : Nat) (x : Nd) (w : World) (hr : ChR w No (esE eb) [x]) :
    Calls Tryd.prog 37 #[chV (esE eb) [x], esE eb, .bool true] w (Post w No (Just (.bool true))) := by
  refine enter0 (vs := [_, _, _]) Tryd.func37 rfl Tryd.ntmps37 rfl ?_
  repeat' first
    | refine k_then ?_ | refine c_seq ?_ | refine c_region ?_ | refine s_nil ?_ | refine s_assign (by exact rfl) (by exact rfl) ?_ | refine c_block ?_ | fail
  refine c_loop (fun r' : List Nd => ChR w No (esE eb) r') (fun r' => [(0, chV (esE eb) r'), (1, esE eb), (2, .bool true)]) (fun _ => []) List.length [x] [] hr rfl ⟨rfl, rfl, rfl, trivial⟩ ?_
  intro r' hr'
  cases r' with
  | nil =>
    rw [show chV (esE eb) [] = esE eb from rfl]
    repeat' first
      | refine c_seq ?_ | refine c_region ?_ | refine s_move (by exact rfl) (by exact rfl) ?_ | refine c_block ?_ | refine w_move (by exact rfl) (by exact rfl) (by exact rfl) (by exact rfl) ?_ | refine g_on (by exact rfl) (by exact rfl) ?_ | fail
    refine s_q rfl rfl (by exact rfl) (q_eqi (fun w _ => eqEE _ w) rfl (by exact rfl) (by exact rfl)).q ?_
    repeat' first
      | refine k_then ?_ | refine c_seq ?_ | refine c_region ?_ | refine s_nil ?_ | refine s_assign (by exact rfl) (by exact rfl) ?_ | refine s_pick_t (by exact rfl) (by exact rfl) (by exact rfl) ?_ | refine c_ret ?_ | refine k_then_ret ?_ | refine k_blk_ret ?_ | refine c_cond_t (by exact rfl) ?_ | fail
    exact ret1 [] rfl rfl rfl ⟨rfl, rfl⟩
  | cons x r' =>
    rw [show chV (esE eb) (x :: r') = .iface 29 (.pointer (some ⟨x.b, 0, none⟩)) from rfl]
    repeat' first
      | refine c_seq ?_ | refine c_region ?_ | refine s_move (by exact rfl) (by exact rfl) ?_ | refine c_block ?_ | refine w_move (by exact rfl) (by exact rfl) (by exact rfl) (by exact rfl) ?_ | refine g_on (by exact rfl) (by exact rfl) ?_ | fail
    refine s_q rfl rfl (by exact rfl) (q_eqi (fun w _ => eqFE _ _ w) rfl (by exact rfl) (by exact rfl)).q ?_
    repeat' first
      | refine k_then ?_ | refine c_seq ?_ | refine c_region ?_ | refine s_nil ?_ | refine s_move (by exact rfl) (by exact rfl) ?_ | refine s_pick_t (by exact rfl) (by exact rfl) (by exact rfl) ?_ | refine c_skip ?_ | refine c_cond_f (by exact rfl) ?_ | fail
    refine s_q rfl rfl (by exact rfl) (q_assert (asFIs _) rfl (by exact rfl)).q ?_
    repeat' first
      | refine k_then ?_ | refine c_seq ?_ | refine c_region ?_ | refine s_nil ?_ | refine s_move (by exact rfl) (by exact rfl) ?_ | refine s_assign (by exact rfl) (by exact rfl) ?_ | refine s_extract (by exact rfl) (by exact rfl) (by exact rfl) ?_ | refine s_pick_f (by exact rfl) (by exact rfl) (by exact rfl) ?_ | refine c_block ?_ | refine c_skip ?_ | refine c_cond_f (by exact rfl) ?_ | refine g_skip (by exact rfl) (by exact rfl) (by exact rfl) (by exact rfl) ?_ | fail
    refine s_q rfl rfl (by exact rfl) (q_assert (asFUn _) rfl (by exact rfl)).q ?_
    repeat' first
      | refine k_then ?_ | refine c_seq ?_ | refine c_region ?_ | refine s_nil ?_ | refine s_move (by exact rfl) (by exact rfl) ?_ | refine s_assign (by exact rfl) (by exact rfl) ?_ | refine s_extract (by exact rfl) (by exact rfl) (by exact rfl) ?_ | refine c_cond_t (by exact rfl) ?_ | fail
    refine s_q rfl rfl (by exact rfl) (q_invk (iUnwrap _) (fun w h => FUnwrap_ok _ _ _ w (rb_old h hr'.1) rfl) rfl (by exact rfl) (by exact rfl)) ?_
    repeat' first
      | refine k_then ?_ | refine c_seq ?_ | refine c_region ?_ | refine s_nil ?_ | refine s_move (by exact rfl) (by exact rfl) ?_ | refine s_assign (by exact rfl) (by exact rfl) ?_ | fail
    obtain ⟨tt, uu, e⟩ := chV_if (bv := esE eb) ⟨_, _, rfl⟩ r'
    refine s_q rfl rfl (by exact rfl) (q_nil_f rfl (by exact congrArg some e)).q ?_
    repeat' first
      | refine k_then ?_ | refine s_nil ?_ | refine c_skip ?_ | refine k_blk ?_ | refine c_cond_f (by exact rfl) ?_ | fail
    refine c_round r' [] rfl ⟨rfl, rfl, rfl, trivial⟩ hr'.2 (Nat.lt_succ_self _)
theorem IsE_ok (eb : Nat) (x : Nd) (w : World) (hr : ChR w No (esE eb) [x]) :
    Calls Tryd.prog 17 #[chV (esE eb) [x], esE eb] w (Post w No (Just (.bool true))) := by
  refine enter0 (vs := [.iface 29 (.pointer (some ⟨x.b, 0, none⟩)), _]) Tryd.func17 rfl Tryd.ntmps17 rfl ?_
  repeat' first
    | refine k_then ?_ | refine c_seq ?_ | refine c_region ?_ | refine s_nil ?_ | refine s_move (by exact rfl) (by exact rfl) ?_ | refine s_assign (by exact rfl) (by exact rfl) ?_ | refine s_pick_f (by exact rfl) (by exact rfl) (by exact rfl) ?_ | refine c_skip ?_ | refine c_cond_f (by exact rfl) ?_ | refine w_move (by exact rfl) (by exact rfl) (by exact rfl) (by exact rfl) ?_ | refine g_on (by exact rfl) (by exact rfl) ?_ | refine s_q rfl rfl (by exact rfl) (q_nil_f rfl (by exact rfl)).q ?_ | fail
  refine s_q rfl rfl (by exact rfl) (q_ext (fun w _ => cTypeOf _ _ (tE _) w) rfl (by exact rfl)).q ?_
  skip
  refine s_q rfl rfl (by exact rfl) (q_inv (fun w => iComp _ w cE) rfl (by exact rfl) (by exact rfl)).q ?_
  repeat' first
    | refine k_then ?_ | refine c_seq ?_ | refine c_region ?_ | refine s_nil ?_ | refine s_move (by exact rfl) (by exact rfl) ?_ | refine s_assign (by exact rfl) (by exact rfl) ?_ | fail
  refine s_call (vs := [chV (esE eb) [x], _, _]) (by exact rfl) (by exact rfl) (fun w h => isE_ok eb x w (hr.old h)) ?_
  repeat' first
    | refine k_then ?_ | refine s_nil ?_ | refine s_assign (by exact rfl) (by exact rfl) ?_ | refine c_ret ?_ | fail
  exact ret1 [] rfl rfl rfl ⟨rfl, rfl⟩
/-- the place of the one fault of a chain -/
theorem eachE_ok (x : Nd) (c : Value) (wb ab : Nat) (w : World) (S : FS) (hr : RB w S x.b 37 [.string x.s, .int .i64 x.i, c]) (hs : sats [boxHP wb 9 [.string x.s], boxHP ab 3 [.int .i64 (-1)]] S w) :
    Calls Tryd.prog 38 #[.iface 29 (.pointer (some ⟨x.b, 0, none⟩)), .func (.func 40) #[] #[.pointer (some ⟨wb, 0, none⟩), .pointer (some ⟨ab, 0, none⟩)]] w (Post w S fun u L' => u = .tuple #[] ∧ L' = [boxHP wb 9 [.string x.s], boxHP ab 3 [.int .i64 x.i]]) := by
  refine enter (vs := [_, _]) Tryd.func38 rfl Tryd.ntmps38 rfl hs ?_
  repeat' first
    | refine c_block ?_ | fail
  refine c_loop (fun _ : Unit => True) (fun _ => [(0, .iface 29 (.pointer (some ⟨x.b, 0, none⟩))), (1, .func (.func 40) #[] #[.pointer (some ⟨wb, 0, none⟩), .pointer (some ⟨ab, 0, none⟩)])])
    (fun _ => [boxHP wb 9 [.string x.s], boxHP ab 3 [.int .i64 (-1)]]) (fun _ => 0) () [0, 0] trivial rfl ⟨rfl, rfl, trivial⟩ ?_
  intro _ _
  repeat' first
    | refine k_then ?_ | refine c_seq ?_ | refine c_region ?_ | refine s_nil ?_ | refine s_move (by exact rfl) (by exact rfl) ?_ | refine c_block ?_ | refine c_skip ?_ | refine c_cond_t (by exact rfl) ?_ | refine s_q rfl rfl (by exact rfl) (q_nonnil_f rfl (by exact rfl)).q ?_ | fail
  refine s_q rfl rfl (by exact rfl) (q_assert (asFF _) rfl (by exact rfl)).q ?_
  repeat' first
    | refine k_then ?_ | refine c_seq ?_ | refine c_region ?_ | refine s_nil ?_ | refine s_move (by exact rfl) (by exact rfl) ?_ | refine s_assign (by exact rfl) (by exact rfl) ?_ | refine s_not (by exact rfl) (by exact rfl) ?_ | refine s_extract (by exact rfl) (by exact rfl) (by exact rfl) ?_ | refine s_pick_f (by exact rfl) (by exact rfl) (by exact rfl) ?_ | refine w_move (by exact rfl) (by exact rfl) (by exact rfl) (by exact rfl) ?_ | refine g_on (by exact rfl) (by exact rfl) ?_ | refine s_q rfl rfl (by exact rfl) (q_pnil_f rfl (by exact rfl)).q ?_ | fail
  refine s_lendv (vs := [.pointer (some ⟨x.b, 0, none⟩)]) (pre := []) (caps := [.pointer (some ⟨wb, 0, none⟩), .pointer (some ⟨ab, 0, none⟩)]) [boxHP wb 9 [.string x.s], boxHP ab 3 [.int .i64 (-1)]] [] (by exact rfl) (by exact rfl) (by exact rfl) (by exact rfl) (fun w S h => place1_ok x c wb ab x.s _ w S (h.rb_old hr) h.own) ?_
  rw [beq_self_eq_true]
  rintro u L' ⟨rfl, rfl⟩
  repeat' first
    | refine k_then ?_ | refine s_nil ?_ | refine s_pick_f (by exact rfl) (by exact rfl) (by exact rfl) ?_ | refine c_ret ?_ | refine k_then_ret ?_ | refine k_blk_ret ?_ | refine c_cond_t (by exact rfl) ?_ | refine w_not (by exact rfl) (by exact rfl) (by exact rfl) (by exact rfl) ?_ | fail
  exact retL [] [] [0, 0] rfl trivial (by exact rfl) ⟨rfl, rfl⟩
theorem PlaceE_ok (x : Nd) (c : Value) (w : World) (hr : RB w No x.b 37 [.string x.s, .int .i64 x.i, c]) :
    Calls Tryd.prog 21 #[.iface 29 (.pointer (some ⟨x.b, 0, none⟩)), .string x.s] w (Post w No (Just (.int .i64 x.i))) := by
  refine enter0 (vs := [_, _]) Tryd.func21 rfl Tryd.ntmps21 rfl ?_
  repeat' first
    | refine k_then ?_ | refine c_seq ?_ | refine c_region ?_ | refine s_nil ?_ | refine s_assign (by exact rfl) (by exact rfl) ?_ | refine o_box (by exact rfl) (by exact rfl) (fun b => ?_) | refine o_alloc (by exact rfl) (fun b => ?_) | fail
  refine o_st_box (i := 0) (by exact rfl) (by exact rfl) (by exact rfl) rfl (by simp [Value.cells]) ?_
  repeat' first
    | refine k_then ?_ | refine c_seq ?_ | refine c_region ?_ | refine s_nil ?_ | refine s_move (by exact rfl) (by exact rfl) ?_ | fail
  refine s_q rfl rfl (by exact rfl) (q_mkf (vs := []) (us := [_, _]) rfl (by exact rfl) (by exact rfl)).q ?_
  rename_i wb
  refine c_pick [1, 0] (by exact rfl) ?_
  refine s_lend (vs := [_, _]) [boxHP wb 9 [.string x.s], boxHP b 3 [.int .i64 (-1)]] [] (by exact rfl) (by exact rfl) (by exact rfl) (fun w S h => eachE_ok x c wb b w S (h.rb_old hr) h.own) ?_
  rintro u L' ⟨rfl, rfl⟩
  repeat' first
    | refine k_then ?_ | refine c_seq ?_ | refine c_region ?_ | refine s_nil ?_ | refine s_assign (by exact rfl) (by exact rfl) ?_ | refine s_ld_box (by exact rfl) (by exact rfl) (by exact .tail _ (.head _)) (by exact rfl) ?_ | refine c_ret ?_ | fail
  exact ret1 [] rfl rfl rfl ⟨rfl, rfl⟩
theorem PlaceNil_ok (wh : ByteArray) (w : World) :
    Calls Tryd.prog 21 #[.nilIface, .string wh] w (Post w No (Just (.int .i64 (-1)))) := by
  have hE : ∀ (fv : Value) (w : World), Calls Tryd.prog 38 #[.nilIface, fv] w (Post w No (Just (.tuple #[]))) := fun fv w => by
    refine enter0 (vs := [_, _]) Tryd.func38 rfl Tryd.ntmps38 rfl ?_
    repeat' first
      | refine c_block ?_ | fail
    refine c_loop (fun _ : Unit => True) (fun _ => [(0, .nilIface)]) (fun _ => []) (fun _ => 0) () [] trivial rfl ⟨rfl, trivial⟩ ?_
    intro _ _
    repeat' first
      | refine k_then ?_ | refine c_seq ?_ | refine c_region ?_ | refine s_nil ?_ | refine s_move (by exact rfl) (by exact rfl) ?_ | refine c_exit ?_ | refine k_then_exit ?_ | refine k_blk_eq ?_ | refine c_cond_f (by exact rfl) ?_ | refine s_q rfl rfl (by exact rfl) (q_nonnil_t rfl (by exact rfl)).q ?_ | fail
    exact ret0 [] rfl rfl ⟨rfl, rfl⟩
  refine enter0 (vs := [_, _]) Tryd.func21 rfl Tryd.ntmps21 rfl ?_
  repeat' first
    | refine k_then ?_ | refine c_seq ?_ | refine c_region ?_ | refine s_nil ?_ | refine s_assign (by exact rfl) (by exact rfl) ?_ | refine o_box (by exact rfl) (by exact rfl) (fun b => ?_) | refine o_alloc (by exact rfl) (fun b => ?_) | fail
  refine o_st_box (i := 0) (by exact rfl) (by exact rfl) (by exact rfl) rfl (by simp [Value.cells]) ?_
  repeat' first
    | refine k_then ?_ | refine c_seq ?_ | refine c_region ?_ | refine s_nil ?_ | refine s_move (by exact rfl) (by exact rfl) ?_ | fail
  refine s_q rfl rfl (by exact rfl) (q_mkf (vs := []) (us := [_, _]) rfl (by exact rfl) (by exact rfl)).q ?_
  refine s_call (vs := [_, _]) (by exact rfl) (by exact rfl) (fun w h => hE _ w) ?_
  repeat' first
    | refine k_then ?_ | refine c_seq ?_ | refine c_region ?_ | refine s_nil ?_ | refine s_assign (by exact rfl) (by exact rfl) ?_ | refine s_ld_box (by exact rfl) (by exact rfl) (by exact .head _) (by exact rfl) ?_ | refine c_ret ?_ | fail
  exact ret1 [] rfl rfl rfl ⟨rfl, rfl⟩
theorem FErrorN_ok (w : World) : Calls Tryd.prog 12 #[.pointer none] w (Post w No (Just (.string ⟨#[]⟩))) := by
  refine enter0 (vs := [_]) Tryd.func12 rfl Tryd.ntmps12 rfl ?_
  repeat' first
    | refine k_then ?_ | refine c_seq ?_ | refine c_region ?_ | refine s_nil ?_ | refine s_move (by exact rfl) (by exact rfl) ?_ | refine s_assign (by exact rfl) (by exact rfl) ?_ | refine c_ret ?_ | refine k_then_ret ?_ | refine c_cond_t (by exact rfl) ?_ | refine s_q rfl rfl (by exact rfl) (q_pnil_t rfl (by exact rfl)).q ?_ | fail
  exact ret1 [] rfl rfl rfl ⟨rfl, rfl⟩
theorem FUnwrapN_ok (w : World) : Calls Tryd.prog 14 #[.pointer none] w (Post w No (Just .nilIface)) := by
  refine enter0 (vs := [_]) Tryd.func14 rfl Tryd.ntmps14 rfl ?_
  repeat' first
    | refine k_then ?_ | refine c_seq ?_ | refine c_region ?_ | refine s_nil ?_ | refine s_move (by exact rfl) (by exact rfl) ?_ | refine s_assign (by exact rfl) (by exact rfl) ?_ | refine c_ret ?_ | refine k_then_ret ?_ | refine c_cond_t (by exact rfl) ?_ | refine s_q rfl rfl (by exact rfl) (q_pnil_t rfl (by exact rfl)).q ?_ | fail
  exact ret1 [] rfl rfl rfl ⟨rfl, rfl⟩
theorem FErrorB_ok (fb : Nat) (s : ByteArray) (i : Int) (hs : s.size ≤ 1000) (hi : I64 i) (w : World) (ht : RT w No) (hb : RB w No fb 37 [.string s, .int .i64 i, .nilIface]) :
    Calls Tryd.prog 12 #[.pointer (some ⟨fb, 0, none⟩)] w (Post w No (Just (.string (plB s i)))) := by
  have hit := itoaB_size hi.1 hi.2
  have e1 : (⟨#[32]⟩ : ByteArray).size = 1 := rfl
  have e2 : (⟨#[58, 32]⟩ : ByteArray).size = 2 := rfl
  refine enter0 (vs := [_]) Tryd.func12 rfl Tryd.ntmps12 rfl ?_
  repeat' first
    | refine k_then ?_ | refine c_seq ?_ | refine c_region ?_ | refine s_nil ?_ | refine s_move (by exact rfl) (by exact rfl) ?_ | refine s_assign (by exact rfl) (by exact rfl) ?_ | refine c_skip ?_ | refine c_cond_f (by exact rfl) ?_ | refine s_q rfl rfl (by exact rfl) (q_pnil_f rfl (by exact rfl)).q ?_ | fail
  have q1 : (s ++ (⟨#[32]⟩ : ByteArray)).size = s.size + 1 := by rw [ByteArray.size_append, e1]
  have q2 : (s ++ (⟨#[32]⟩ : ByteArray) ++ itoaB i).size = s.size + 1 + (itoaB i).size := by rw [ByteArray.size_append, q1]
  refine c_draw (by kernel_rfl) (by kernel_rfl) ?_
  repeat' first
    | refine d_move (by exact rfl) (by exact rfl) ?_ | refine d_fa (by exact rfl) (by exact rfl) ?_ | refine d_ld_rb (by exact rfl) (by exact rfl) (by assumption) (by exact rfl) ?_ | refine d_q rfl rfl (by exact rfl) (q_nilck rfl (by exact rfl)).q ?_ | refine d_q rfl rfl (by exact rfl) (q_sadd rfl (by exact rfl) (by exact rfl) (by omega)).q ?_ | fail
  refine d_call (by exact rfl) (by exact rfl) (fun w h => Itoa_ok i w hi.1 hi.2 (ht.old h)) ?_
  repeat' first
    | refine d_nil ?_ | refine d_assign (by exact rfl) (by exact rfl) ?_ | refine d_q rfl rfl (by exact rfl) (q_sadd rfl (by exact rfl) (by exact rfl) (by omega)).q ?_ | fail
  repeat' first
    | refine k_then ?_ | refine c_seq ?_ | refine c_region ?_ | refine s_nil ?_ | refine s_move (by exact rfl) (by exact rfl) ?_ | refine s_assign (by exact rfl) (by exact rfl) ?_ | refine s_fa (by exact rfl) (by exact rfl) ?_ | refine s_ld_rb (by exact rfl) (by exact rfl) (by assumption) (by exact rfl) ?_ | refine c_block ?_ | refine c_ret ?_ | refine k_blk_ret ?_ | refine c_cond_t (by exact rfl) ?_ | refine s_nilc (by exact rfl) (by exact rfl) ?_ | refine s_q rfl rfl (by exact rfl) (q_nil_t rfl (by exact rfl)).q ?_ | fail
  exact ret1 [] rfl rfl rfl ⟨rfl, rfl⟩
instance : BoTy Tryd.prog 4 := ⟨Tryd.underlying4⟩
theorem FaultNils_ok (tx wh : ByteArray) (i : Int) (w : World) (ht : RT w No) (hg : RC w No 0 (rT 27)) (hi : I64 i) :
    Calls Tryd.prog 5 #[.string tx, .string wh, .int .i64 i] w (Post w No (Just (.bool true))) := by
  refine enter0 (vs := [_, _, _]) Tryd.func5 rfl Tryd.ntmps5 rfl ?_
  repeat' first
    | refine k_then ?_ | refine c_seq ?_ | refine c_region ?_ | refine s_nil ?_ | refine s_move (by exact rfl) (by exact rfl) ?_ | refine s_assign (by exact rfl) (by exact rfl) ?_ | refine s_gtr (by exact rfl) (by exact rfl) (by exact rfl) ?_ | refine s_lens (by exact rfl) (by exact rfl) ?_ | refine s_pick_t (by exact rfl) (by exact rfl) (by exact rfl) ?_ | refine s_pick_f (by exact rfl) (by exact rfl) (by exact rfl) ?_ | refine c_skip ?_ | (refine c_cond_p (by exact rfl) (fun h => ?_) (fun h => ?_) <;> try (exfalso; omega)) | refine c_cond_t (by exact rfl) ?_ | (refine g_case (by exact rfl) (by exact rfl) (fun h => ?_) (fun h => ?_) <;> try (exfalso; omega)) | refine g_skip (by exact rfl) (by exact rfl) (by exact rfl) (by exact rfl) ?_ | refine w_move (by exact rfl) (by exact rfl) (by exact rfl) (by exact rfl) ?_ | refine w_gtr (by exact rfl) (by exact rfl) (by exact rfl) (by exact rfl) (by exact rfl) ?_ | refine w_lens (by exact rfl) (by exact rfl) (by exact rfl) (by exact rfl) ?_ | fail
  · refine s_call (vs := []) (by exact rfl) (by exact rfl) (fun w h => alive03_ok w (ht.old h) (hg.old h)) ?_
    repeat' first
      | refine k_then ?_ | refine s_nil ?_ | refine s_assign (by exact rfl) (by exact rfl) ?_ | refine c_ret ?_ | refine k_then_ret ?_ | fail
    exact ret1 [] rfl rfl rfl ⟨rfl, rfl⟩
  · refine s_call (vs := []) (by exact rfl) (by exact rfl) (fun w h => alive03_ok w (ht.old h) (hg.old h)) ?_
    repeat' first
      | refine k_then ?_ | refine s_nil ?_ | refine s_assign (by exact rfl) (by exact rfl) ?_ | refine c_ret ?_ | refine k_then_ret ?_ | fail
    exact ret1 [] rfl rfl rfl ⟨rfl, rfl⟩
  · refine o_call (by exact rfl) (by exact rfl) (fun w h => New_ok tx w) ?_
    rintro u L' ⟨eb, rfl, rfl⟩
    repeat' first
      | refine k_then ?_ | refine c_seq ?_ | refine c_region ?_ | refine s_nil ?_ | refine s_move (by exact rfl) (by exact rfl) ?_ | refine s_assign (by exact rfl) (by exact rfl) ?_ | fail
    refine o_call (by exact rfl) (by exact rfl) (fun w h => WrapE_ok wh i eb w) ?_
    rintro u L' ⟨fb, rfl, rfl⟩
    repeat' first
      | refine k_then ?_ | refine c_seq ?_ | refine c_region ?_ | refine s_nil ?_ | refine s_move (by exact rfl) (by exact rfl) ?_ | refine s_assign (by exact rfl) (by exact rfl) ?_ | fail
    refine o_build [(0, .string wh, [.string wh]), (1, .int .i64 i, [.int .i64 i])] (by exact rfl) (by exact rfl) (by simp [Value.cells]) (by exact rfl) ?_
    repeat' first
      | refine k_then ?_ | refine c_seq ?_ | refine c_region ?_ | refine s_nil ?_ | refine s_move (by exact rfl) (by exact rfl) ?_ | refine s_assign (by exact rfl) (by exact rfl) ?_ | refine o_box (by exact rfl) (by exact rfl) (fun b => ?_) | fail
    have hFb : ∀ {w1 : World} {S1 : FS} {L1 : List HP} {w2 : World}, St w1 S1 L1 w2 → boxHP fb 37 (ndC (esE eb) ⟨fb, wh, i⟩ []) ∈ L1 → ChR w2 No (esE eb) [⟨fb, wh, i⟩] := fun h hL => ⟨rb_own h hL, trivial⟩
    have hit := itoaB_size hi.1 hi.2
    have e1 : (⟨#[32]⟩ : ByteArray).size = 1 := rfl
    have e2 : (⟨#[58, 32]⟩ : ByteArray).size = 2 := rfl
    have q1 : (wh ++ (⟨#[32]⟩ : ByteArray)).size = wh.size + 1 := by rw [ByteArray.size_append, e1]
    have q2 : (wh ++ (⟨#[32]⟩ : ByteArray) ++ itoaB i).size = wh.size + 1 + (itoaB i).size := by rw [ByteArray.size_append, q1]
    refine s_call (by exact rfl) (by exact rfl) (fun w h => FErrorN_ok w) ?_
    refine s_q rfl rfl (by exact rfl) (q_seq rfl (by exact rfl) (by exact rfl)).q ?_
    rw [beq_self_eq_true]
    repeat' first
      | refine s_move (by exact rfl) (by exact rfl) ?_ | refine w_move (by exact rfl) (by exact rfl) (by exact rfl) (by exact rfl) ?_ | refine g_on (by exact rfl) (by exact rfl) ?_ | fail
    refine s_call (by exact rfl) (by exact rfl) (fun w h => FUnwrapN_ok w) ?_
    repeat' first
      | refine s_move (by exact rfl) (by exact rfl) ?_ | refine s_pick_t (by exact rfl) (by exact rfl) (by exact rfl) ?_ | refine g_on (by exact rfl) (by exact rfl) ?_ | refine s_q rfl rfl (by exact rfl) (q_nil_t rfl (by exact rfl)).q ?_ | fail
    refine s_call (by exact rfl) (by exact rfl) (fun w h => FOfNil_ok w) ?_
    repeat' first
      | refine s_move (by exact rfl) (by exact rfl) ?_ | refine s_pick_t (by exact rfl) (by exact rfl) (by exact rfl) ?_ | (refine g_case (by exact rfl) (by exact rfl) (fun h => ?_) (fun h => ?_) <;> try (exfalso; omega)) | refine w_eql (by exact rfl) (by exact rfl) (by exact rfl) (by exact rfl) (by exact rfl) ?_ | refine g_on (by exact rfl) (by exact rfl) ?_ | fail
    all_goals try (exfalso; omega)
    refine s_call (by exact rfl) (by exact rfl) (fun w h => FIsNil_ok 0 w) ?_
    rw [decide_eq_true (p := (0 : Int) = 0) rfl]
    repeat' first
      | refine s_move (by exact rfl) (by exact rfl) ?_ | refine s_pick_t (by exact rfl) (by exact rfl) (by exact rfl) ?_ | refine g_on (by exact rfl) (by exact rfl) ?_ | fail
    refine s_call (by exact rfl) (by exact rfl) (fun w h => FIsNil_ok 6 w) ?_
    rw [decide_eq_false (p := (6 : Int) = 0) (by decide)]
    repeat' first
      | refine s_move (by exact rfl) (by exact rfl) ?_ | refine s_pick_t (by exact rfl) (by exact rfl) (by exact rfl) ?_ | refine w_not (by exact rfl) (by exact rfl) (by exact rfl) (by exact rfl) ?_ | refine g_on (by exact rfl) (by exact rfl) ?_ | fail
    refine s_call (by exact rfl) (by exact rfl) (fun w h => TrailNil_ok w) ?_
    have hsn : Shp (.slice none 0 0) 0 := ⟨by simp [maxLen], .inl ⟨rfl, rfl⟩⟩
    repeat' first
      | refine s_move (by exact rfl) (by exact rfl) ?_ | refine s_pick_t (by exact rfl) (by exact rfl) (by exact rfl) ?_ | (refine g_case (by exact rfl) (by exact rfl) (fun h => ?_) (fun h => ?_) <;> try (exfalso; omega)) | refine w_move (by exact rfl) (by exact rfl) (by exact rfl) (by exact rfl) ?_ | refine w_eql (by exact rfl) (by exact rfl) (by exact rfl) (by exact rfl) (by exact rfl) ?_ | refine w_len (by exact rfl) (by exact rfl) (by exact rfl) (by exact rfl) (by assumption) ?_ | refine g_on (by exact rfl) (by exact rfl) ?_ | fail
    all_goals try (exfalso; omega)
    refine s_call (by exact rfl) (by exact rfl) (fun w h => PlaceNil_ok wh w) ?_
    repeat' first
      | refine s_move (by exact rfl) (by exact rfl) ?_ | refine s_pick_t (by exact rfl) (by exact rfl) (by exact rfl) ?_ | (refine g_case (by exact rfl) (by exact rfl) (fun h => ?_) (fun h => ?_) <;> try (exfalso; omega)) | refine w_move (by exact rfl) (by exact rfl) (by exact rfl) (by exact rfl) ?_ | refine w_eql (by exact rfl) (by exact rfl) (by exact rfl) (by exact rfl) (by exact rfl) ?_ | refine g_on (by exact rfl) (by exact rfl) ?_ | fail
    all_goals try (exfalso; omega)
    refine s_call (vs := [chV (esE eb) []]) (by exact rfl) (by exact rfl) (fun w h => FOfE_ok eb [] w (hg.old h) trivial) ?_
    repeat' first
      | refine s_move (by exact rfl) (by exact rfl) ?_ | refine s_pick_t (by exact rfl) (by exact rfl) (by exact rfl) ?_ | (refine g_case (by exact rfl) (by exact rfl) (fun h => ?_) (fun h => ?_) <;> try (exfalso; omega)) | refine w_move (by exact rfl) (by exact rfl) (by exact rfl) (by exact rfl) ?_ | refine w_eql (by exact rfl) (by exact rfl) (by exact rfl) (by exact rfl) (by exact rfl) ?_ | refine g_on (by exact rfl) (by exact rfl) ?_ | fail
    all_goals try (exfalso; omega)
    refine s_call (vs := [chV (esE eb) [⟨fb, wh, i⟩]]) (by exact rfl) (by exact rfl) (fun w h => FOfE_ok eb [⟨fb, wh, i⟩] w (hg.old h) (hFb h (by exact .tail _ (.head _)))) ?_
    repeat' first
      | refine s_move (by exact rfl) (by exact rfl) ?_ | refine s_pick_t (by exact rfl) (by exact rfl) (by exact rfl) ?_ | (refine g_case (by exact rfl) (by exact rfl) (fun h => ?_) (fun h => ?_) <;> try (exfalso; omega)) | refine w_move (by exact rfl) (by exact rfl) (by exact rfl) (by exact rfl) ?_ | refine w_eql (by exact rfl) (by exact rfl) (by exact rfl) (by exact rfl) (by exact rfl) ?_ | refine g_on (by exact rfl) (by exact rfl) ?_ | fail
    all_goals try (exfalso; omega)
    refine s_call (vs := [chV (esE eb) [⟨fb, wh, i⟩], .int .i64 0]) (by exact rfl) (by exact rfl) (fun w h => FIsE0_ok eb [⟨fb, wh, i⟩] w) ?_
    repeat' first
      | refine s_move (by exact rfl) (by exact rfl) ?_ | refine s_pick_t (by exact rfl) (by exact rfl) (by exact rfl) ?_ | refine w_move (by exact rfl) (by exact rfl) (by exact rfl) (by exact rfl) ?_ | refine w_not (by exact rfl) (by exact rfl) (by exact rfl) (by exact rfl) ?_ | refine g_on (by exact rfl) (by exact rfl) ?_ | fail
    refine s_call (vs := [chV (esE eb) [⟨fb, wh, i⟩], esE eb]) (by exact rfl) (by exact rfl) (fun w h => IsE_ok eb ⟨fb, wh, i⟩ w (hFb h (by exact .tail _ (.head _)))) ?_
    repeat' first
      | refine s_move (by exact rfl) (by exact rfl) ?_ | refine s_pick_t (by exact rfl) (by exact rfl) (by exact rfl) ?_ | refine w_move (by exact rfl) (by exact rfl) (by exact rfl) (by exact rfl) ?_ | refine g_on (by exact rfl) (by exact rfl) ?_ | fail
    refine s_call (vs := [_, .string wh]) (by exact rfl) (by exact rfl) (fun w h => PlaceE_ok ⟨fb, wh, i⟩ (esE eb) w (hFb h (by exact .tail _ (.head _))).1) ?_
    repeat' first
      | refine k_then ?_ | refine s_nil ?_ | refine s_move (by exact rfl) (by exact rfl) ?_ | refine s_assign (by exact rfl) (by exact rfl) ?_ | refine s_pick_t (by exact rfl) (by exact rfl) (by exact rfl) ?_ | refine s_pick_f (by exact rfl) (by exact rfl) (by exact rfl) ?_ | refine c_ret ?_ | (refine g_case (by exact rfl) (by exact rfl) (fun h => ?_) (fun h => ?_) <;> try (exfalso; omega)) | refine g_skip (by exact rfl) (by exact rfl) (by exact rfl) (by exact rfl) ?_ | refine w_move (by exact rfl) (by exact rfl) (by exact rfl) (by exact rfl) ?_ | refine w_eql (by exact rfl) (by exact rfl) (by exact rfl) (by exact rfl) (by exact rfl) ?_ | refine g_on (by exact rfl) (by exact rfl) ?_ | fail
    all_goals try (exact absurd rfl ‹¬ i = i›)
    refine s_call (by exact rfl) (by exact rfl) (fun w h => FErrorB_ok b wh i (by omega) hi w (ht.old h) (rb_own h (by exact .head _))) ?_
    repeat' first
      | refine w_move (by exact rfl) (by exact rfl) (by exact rfl) (by exact rfl) ?_ | refine g_on (by exact rfl) (by exact rfl) ?_ | refine s_q rfl rfl (by exact rfl) (q_sadd rfl (by exact rfl) (by exact rfl) (by omega)).q ?_ | fail
    refine s_call (by exact rfl) (by exact rfl) (fun w h => Digits_ok i w hi.1 hi.2) ?_
    repeat' first
      | refine s_move (by exact rfl) (by exact rfl) ?_ | refine s_pick_t (by exact rfl) (by exact rfl) (by exact rfl) ?_ | refine g_on (by exact rfl) (by exact rfl) ?_ | refine s_q rfl rfl (by exact rfl) (q_sadd rfl (by exact rfl) (by exact rfl) (by omega)).q ?_ | refine s_q rfl rfl (by exact rfl) (q_seq rfl (by exact rfl) (by exact rfl)).q ?_ | fail
    have hq : ((plB wh i).toList == (wh ++ (⟨#[32]⟩ : ByteArray) ++ itoaB i ++ (⟨#[58, 32]⟩ : ByteArray)).toList) = true := beq_self_eq_true (plB wh i).toList
    rw [hq]
    repeat' first
      | refine w_move (by exact rfl) (by exact rfl) (by exact rfl) (by exact rfl) ?_ | refine g_on (by exact rfl) (by exact rfl) ?_ | fail
    refine s_call (by exact rfl) (by exact rfl) (fun w h => FUnwrap_ok b _ .nilIface w (rb_own h (by exact .head _)) rfl) ?_
    repeat' first
      | refine s_move (by exact rfl) (by exact rfl) ?_ | refine s_pick_t (by exact rfl) (by exact rfl) (by exact rfl) ?_ | refine g_on (by exact rfl) (by exact rfl) ?_ | refine s_q rfl rfl (by exact rfl) (q_nil_t rfl (by exact rfl)).q ?_ | fail
    refine s_call (vs := []) (by exact rfl) (by exact rfl) (fun w h => alive03_ok w (ht.old h) (hg.old h)) ?_
    repeat' first
      | refine k_then ?_ | refine s_nil ?_ | refine s_assign (by exact rfl) (by exact rfl) ?_ | refine s_pick_t (by exact rfl) (by exact rfl) (by exact rfl) ?_ | refine c_ret ?_ | fail
    exact ret1 [] rfl rfl rfl ⟨rfl, rfl⟩
end Go.Proofs.YtllkoinbfegonaaDoor
end
section
namespace Go.Proofs.YtllkoinbfegonaaDoor
open Go.ChangeShapes Go.WideShapes Go.ChangeAt Go.RowKit Go.Joins Go.Deep Go.Sl
set_option maxRecDepth 100000
set_option linter.unusedVariables false
set_option linter.unusedSimpArgs false
theorem row_own : ownKnob Tryd.prog.godebug = none := by kernel_rfl
theorem row_laid : laidOutB Tryd.prog = true := by kernel_rfl
section
variable {H : Type} {enc : TypeId × Value → H}
end
end Go.Proofs.YtllkoinbfegonaaDoor
end
section
namespace Go.Proofs.YtllkoinbfegonaaDoor
open Go Go.ChangeShapes Go.WideShapes Go.RowKit Go.Sl Go.Lib
set_option maxRecDepth 100000
set_option linter.unusedVariables false
theorem et : Tryd.prog.globalNamed "errors.errorType" = some 0 := by kernel_rfl
theorem rtN : (Tryd.prog.cutTypes.find? (·.1 == "internal/reflectlite.rtype")).map (·.2) = some 108 := by kernel_rfl
theorem oneRow : ((List.range Tryd.prog.types.size).filter fun t => Tryd.prog.rowNamed t [101, 114, 114, 111, 114]) = [27] := by kernel_rfl
theorem handle_of {W : World} (h : handlesMet Tryd.prog [("errors.errorType", Rows.laid_errors_errorType)] W) : W.cell? ⟨0, 0, none⟩ = some (rT 27) := by
  obtain ⟨name, u, ty, e1, e2, e3, e4, e5⟩ := h _ (List.mem_singleton.2 rfl)
  have en : name = [101, 114, 114, 111, 114] := (Option.some.inj e1).symm
  subst en
  obtain rfl := Option.some.inj (rtN.symm.trans e2)
  have hm : ty ∈ (List.range Tryd.prog.types.size).filter fun t => Tryd.prog.rowNamed t [101, 114, 114, 111, 114] := List.mem_filter.2 ⟨List.mem_range.2 e3, e4⟩
  rw [oneRow] at hm
  obtain rfl := List.mem_singleton.1 hm
  simpa using World.var?_cell et e5 0
theorem pow_name : Tryd.prog.globalNamed "internal/strconv.uint64pow10" = some 1 := by kernel_rfl
def laid3 : List (String × DataW Unit) := [("math/bits.deBruijn32tab", Rows.laid_math_bits_deBruijn32tab), ("math/bits.deBruijn64tab", Rows.laid_math_bits_deBruijn64tab), ("internal/strconv.uint64pow10", Rows.laid_internal_strconv_uint64pow10)]
theorem laid_parts {W : World} (h : laidMetH Tryd.prog Rows.faultKindsRow.laid W) : laidMet Tryd.prog laid3 W ∧ handlesMet Tryd.prog [("errors.errorType", Rows.laid_errors_errorType)] W := h
theorem laid_cells {W : World} (h : laidMetH Tryd.prog Rows.faultKindsRow.laid W) : W.cell? ⟨0, 0, none⟩ = some (rT 27) := handle_of (laid_parts h).2
theorem laid_tab {W : World} (h : laidMetH Tryd.prog Rows.faultKindsRow.laid W) : TabIs Tryd.prog W "internal/strconv.uint64pow10" .u64 pow10Tab := by
  obtain ⟨ps, hl, -, -⟩ := (laid_parts h).1
  obtain ⟨_, _, _, _, _, _, _, _, _, _, hl2, _⟩ := hl
  obtain ⟨_, _, _, _, _, _, _, _, _, _, hl3, _⟩ := hl2
  obtain ⟨g', t', cs, fuel, p, q, hg', ht', hvar, hd, _, _⟩ := hl3
  obtain rfl := Option.some.inj (pow_name.symm.trans hg')
  have hty : (Tryd.prog.globals[(1 : Nat)]?).map (·.type) = some t' := ht'
  have ht : ∃ e, Tryd.prog.underlying t' = some (.array 20 e) ∧ Tryd.prog.underlying e = some (.int .u64) ∧ Tryd.prog.cellsOf e = 1 ∧ Tryd.prog.cellsOf t' = 20 := by
    obtain rfl := Option.some.inj (ht'.symm.trans (show (Tryd.prog.globals[(1 : Nat)]?).map (·.type) = some 157 by kernel_rfl))
    exact ⟨90, Tryd.underlying157, Tryd.underlying90, by kernel_rfl, by kernel_rfl⟩
  obtain ⟨e, h1, h2, h3, h4⟩ := ht
  unfold TabIs
  rw [hvar, ← cells_of_tab (zs := pow10Tab) h1 h2 h3 h4 hd]
theorem rc_of {W : World} {b : Nat} {v : Value} (h : W.cell? ⟨b, 0, none⟩ = some v) : RC W No b v := fun w' S' hm => by
  rw [hm.below.cell (p := ⟨b, 0, none⟩) (World.block_lt_of_cell? W _ h)]; exact h
theorem rt_of {W : World} (h : TabIs Tryd.prog W "internal/strconv.uint64pow10" .u64 pow10Tab) : RT W No := fun w' S' hm =>
  var?_below hm.below pow_name (World.block_lt_of_cell? W ⟨1, 0, none⟩ (h.cell pow_name 0 (by decide))) h
noncomputable def cellsOfD : DataW Unit → Array Value
  | .agg l => (l.map fun | .lit (.int k n) => Value.int k n | _ => undef).toArray
  | _ => #[]
noncomputable def putG (w : World) (g : Nat) (cs : Array Value) : World := { w with heap := w.heap.modify g fun | .cells _ t frozen => .cells cs t frozen | o => o }
noncomputable def laidWorld (os : Os) : World :=
  putG (putG (putG (putG (World.holding Tryd.prog os ⟨#[], #[], []⟩) 0 #[rT 27]) 1 (cellsOfD Rows.laid_internal_strconv_uint64pow10)) 3 (cellsOfD Rows.laid_math_bits_deBruijn32tab)) 4 (cellsOfD Rows.laid_math_bits_deBruijn64tab)
theorem laidWorld_met (os : Os) (args : Array Value) : laidMetH Tryd.prog Rows.faultKindsRow.laid ((laidWorld os).forCall (fun _ _ => 0) ⟨#[], args, []⟩).memory :=
  laidMetH_of_parts (laidMet_of_run' 8 (by kernel_rfl) (by kernel_rfl)) (by kernel_rfl)
end Go.Proofs.YtllkoinbfegonaaDoor
end
