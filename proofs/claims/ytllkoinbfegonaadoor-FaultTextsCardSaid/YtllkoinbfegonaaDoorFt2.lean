/- Of FaultTexts: part 2: what the walks rest on, contracts of functions and plain lemmas; no condition but those that each states. -/
import Derived.Test.YtllkoinbfegonaaDoorFt1
import Derived.Shelf.Strconv.Itoa3
import Derived.Shelf.SlGeneric
import Derived.Laws.BytesArg
import Derived.ProofKit
import Derived.Deep.Slices
import Derived.Deep.Strs
import Derived.ChangeSame
import Derived.Lib.SmallJoins
import Derived.Test.YtllkoinbfegonaaDoorRows
import Derived.ChangeVars
import Derived.JoinedOf
import Derived.LaidLaws
import Derived.LaidHandle
import Derived.Lib.LaidTab
import Derived.Stop.Joined
import Derived.WalkSmall
set_option linter.unusedVariables false
set_option linter.unusedSimpArgs false
section
set_option linter.unusedVariables false
namespace Go.Proofs.YtllkoinbfegonaaDoor
open Go Go.RowKit Go.Sl Go.Stop Go.Extern.Stop Go.Extern
set_option maxRecDepth 100000
set_option maxHeartbeats 8000000
set_option linter.unusedVariables false
set_option linter.unusedSimpArgs false
attribute [local irreducible] Code.wp wpList bodyPost wpQuiet Exit.then Exit.inBlock Post wpAnyH wpOp
theorem ChR.lent {w0 w : World} {S0 S : FS} {L0 Lr : List HP} {bv : Value} (hs : Lent w0 S0 L0 Lr S w) : ∀ {r : List Nd}, ChR w0 S0 bv r → ChR w S bv r
  | [], _ => trivial
  | _ :: _, ⟨h, h2⟩ => ⟨hs.rb_old h, h2.lent hs⟩
theorem cTypePK (a : Nat) (w : World) : (callFunc 31 (List.toArray [.agg #[hd 79, .pointer (some ⟨a, 0, none⟩), .int .u64 150]])).run Tryd.prog w = .ok (.value (rT 79)) w := by
  rw [callVType]
  exact congrArg (fun z => Result.andThen z fun v w' => Result.ok (Next.value v) w') (yPK ⟨a, 0, none⟩ w)
theorem cTypePF (a : Nat) (w : World) : (callFunc 31 (List.toArray [.agg #[hd 31, .pointer (some ⟨a, 0, none⟩), .int .u64 150]])).run Tryd.prog w = .ok (.value (rT 31)) w := by
  rw [callVType]
  exact congrArg (fun z => Result.andThen z fun v w' => Result.ok (Next.value v) w') (yPF ⟨a, 0, none⟩ w)
theorem cNilPK (a p : Nat) (w : World) (ha : w.cell? ⟨a, 0, none⟩ = some (.pointer (some ⟨p, 0, none⟩))) : (callFunc 32 (List.toArray [.agg #[hd 79, .pointer (some ⟨a, 0, none⟩), .int .u64 150]])).run Tryd.prog w = .ok (.value (.bool false)) w := by
  rw [callIsNil]
  exact congrArg (fun z => Result.andThen z fun v w' => Result.ok (Next.value v) w') (isNilP ⟨a, 0, none⟩ _ w ha)
theorem cNilPF (a p : Nat) (w : World) (ha : w.cell? ⟨a, 0, none⟩ = some (.pointer (some ⟨p, 0, none⟩))) : (callFunc 32 (List.toArray [.agg #[hd 31, .pointer (some ⟨a, 0, none⟩), .int .u64 150]])).run Tryd.prog w = .ok (.value (.bool false)) w := by
  rw [callIsNil]
  exact congrArg (fun z => Result.andThen z fun v w' => Result.ok (Next.value v) w') (isNilF ⟨a, 0, none⟩ _ w ha)
theorem iKind (t : TypeId) (k : Int) (h : ∀ w, ((ReflectliteType.abiMethod fun t => (fun a : Nat => Value.int IntKind.u8 (a : Int)) <$> Rtype.kind t) #[hd t]).run Tryd.prog w = .ok (.int .u8 k) w) (w : World) : (callMethod (rT t) "Kind" (List.toArray [])).run Tryd.prog w = .ok (.value (.int .u8 k)) w := by
  rw [run_callMethod (mKind _), callKind]
  exact congrArg (fun z => Result.andThen z fun v w' => Result.ok (Next.value v) w') (h w)
theorem iElem (t u : TypeId) (h : ∀ w, (ReflectliteType.method ReflectliteType.elem #[.agg #[hd t]]).run Tryd.prog w = .ok (rT u) w) (w : World) : (callMethod (rT t) "Elem" (List.toArray [])).run Tryd.prog w = .ok (.value (rT u)) w := by
  rw [run_callMethod (mElem _), callTElem]
  exact congrArg (fun z => Result.andThen z fun v w' => Result.ok (Next.value v) w') (h w)
theorem iImpl (t u : TypeId) (b : Bool) (h : ∀ w, (ReflectliteType.relation "Implements" ReflectliteType.implements_ #[.agg #[hd t], rT u]).run Tryd.prog w = .ok (.bool b) w) (w : World) : (callMethod (rT t) "Implements" (List.toArray [rT u])).run Tryd.prog w = .ok (.value (.bool b)) w := by
  rw [run_callMethod (mImpl _), callImpl]
  exact congrArg (fun z => Result.andThen z fun v w' => Result.ok (Next.value v) w') (h w)
theorem AsK_ok (k : Int) (r : List Nd) (tb : Nat) (old : Value) (w : World) (S : FS) (hg : RC w S 0 (rT 27)) (hr : ChR w S (.iface 23 (.int .i64 k)) r) (hs : sats [boxHP tb 23 [old]] S w) :
    Calls Tryd.prog 11 #[chV (.iface 23 (.int .i64 k)) r, .iface 79 (.pointer (some ⟨tb, 0, none⟩))] w
      (Post w S fun u L' => u = .bool true ∧ L' = [boxHP tb 23 [.int .i64 k]]) := by
  obtain ⟨tt, uu, e⟩ := chV_if (bv := .iface 23 (.int .i64 k)) ⟨_, _, rfl⟩ r
  refine enter (vs := [_, _]) Tryd.func11 rfl Tryd.ntmps11 rfl hs ?_
  repeat' first
    | refine k_then ?_ | refine c_seq ?_ | refine c_region ?_ | refine s_nil ?_ | refine s_move (by exact rfl) (by exact rfl) ?_ | refine s_assign (by exact rfl) (by exact rfl) ?_ | fail
  refine s_q rfl rfl (by exact rfl) (q_nil_f rfl (by exact congrArg some e)).q ?_
  repeat' first
    | refine k_then ?_ | refine c_seq ?_ | refine c_region ?_ | refine s_nil ?_ | refine s_move (by exact rfl) (by exact rfl) ?_ | refine c_skip ?_ | refine c_cond_f (by exact rfl) ?_ | refine s_q rfl rfl (by exact rfl) (q_nil_f rfl (by exact rfl)).q ?_ | fail
  refine o_ext (g := fun b => .agg #[hd 79, .pointer (some ⟨b, 0, none⟩), .int .u64 150]) (fun w _ => cValPK tb w) (by exact rfl) (by exact rfl) (fun vb => ?_)
  repeat' first
    | refine o_alloc (by exact rfl) (fun b => ?_) | fail
  refine o_stk_box (i := 0) (us := [hd 79, .pointer (some ⟨vb, 0, none⟩), .int .u64 150]) (by exact rfl) (by exact rfl) (by exact rfl) (by exact rfl) (by exact rfl) (by
    intro u hu
    simp only [List.mem_cons, List.mem_nil_iff, or_false] at hu
    rcases hu with rfl | rfl | rfl <;> rfl) (by decide) ?_
  repeat' first
    | refine k_then ?_ | refine c_seq ?_ | refine c_region ?_ | refine s_nil ?_ | refine s_ldk_box (by exact rfl) (by exact rfl) (by exact .head _) (by exact rfl) (by exact rfl) ?_ | fail
  refine s_q rfl rfl (by exact rfl) (q_ext (fun w _ => cTypePK vb w) rfl (by exact rfl)).q ?_
  repeat' first
    | refine k_then ?_ | refine c_seq ?_ | refine c_region ?_ | refine s_nil ?_ | refine s_move (by exact rfl) (by exact rfl) ?_ | refine s_assign (by exact rfl) (by exact rfl) ?_ | fail
  refine s_q rfl rfl (by exact rfl) (q_inv (iKind _ _ kPK) rfl (by exact rfl) (by exact rfl)).q ?_
  repeat' first
    | refine s_move (by exact rfl) (by exact rfl) ?_ | refine s_neq (by exact rfl) (by exact rfl) (by exact rfl) ?_ | (refine g_case (by exact rfl) (by exact rfl) (fun h => ?_) (fun h => ?_) <;> try (exfalso; omega)) | refine w_ldk_box (by exact rfl) (by exact rfl) (by exact rfl) (by exact rfl) (by exact .head _) (by exact rfl) (by exact rfl) ?_ | refine g_on (by exact rfl) (by exact rfl) ?_ | fail
  refine s_q rfl rfl (by exact rfl) (q_ext (fun w h => cNilPK vb tb w (box_cell h (.tail _ (.head _)) rfl).1) rfl (by exact rfl)).q ?_
  repeat' first
    | refine k_then ?_ | refine c_seq ?_ | refine c_region ?_ | refine s_nil ?_ | refine s_move (by exact rfl) (by exact rfl) ?_ | refine s_pick_f (by exact rfl) (by exact rfl) (by exact rfl) ?_ | refine c_skip ?_ | refine c_cond_f (by exact rfl) ?_ | fail
  refine s_q rfl rfl (by exact rfl) (q_inv (iElem _ _ eK) rfl (by exact rfl) (by exact rfl)).q ?_
  repeat' first
    | refine k_then ?_ | refine c_seq ?_ | refine c_region ?_ | refine s_nil ?_ | refine s_move (by exact rfl) (by exact rfl) ?_ | refine s_assign (by exact rfl) (by exact rfl) ?_ | fail
  refine s_q rfl rfl (by exact rfl) (q_inv (iKind _ _ kK) rfl (by exact rfl) (by exact rfl)).q ?_
  repeat' first
    | refine s_move (by exact rfl) (by exact rfl) ?_ | refine s_neq (by exact rfl) (by exact rfl) (by exact rfl) ?_ | (refine g_case (by exact rfl) (by exact rfl) (fun h => ?_) (fun h => ?_) <;> try (exfalso; omega)) | refine w_move (by exact rfl) (by exact rfl) (by exact rfl) (by exact rfl) ?_ | refine g_on (by exact rfl) (by exact rfl) ?_ | fail
  refine s_q rfl rfl (by exact rfl) (q_ld_rc hg rfl (by exact rfl)).q ?_
  repeat' first
    | refine g_on (by exact rfl) (by exact rfl) ?_ | fail
  refine s_q rfl rfl (by exact rfl) (q_inv (iImpl _ _ _ iK) rfl (by exact rfl) (by exact rfl)).q ?_
  repeat' first
    | refine k_then ?_ | refine c_seq ?_ | refine c_region ?_ | refine s_nil ?_ | refine s_move (by exact rfl) (by exact rfl) ?_ | refine s_pick_t (by exact rfl) (by exact rfl) (by exact rfl) ?_ | refine s_ldk_box (by exact rfl) (by exact rfl) (by exact .head _) (by exact rfl) (by exact rfl) ?_ | refine c_skip ?_ | refine c_cond_f (by exact rfl) ?_ | refine w_not (by exact rfl) (by exact rfl) (by exact rfl) (by exact rfl) ?_ | fail
  refine c_pick [2, 0, 0] (by exact rfl) ?_
  refine s_lend [boxHP tb 23 [old]] _ (by exact rfl) (by exact rfl) (by exact rfl) (fun w S h => asK_ok k r tb vb old w S (hr.lent h) (h.rb_own (.tail _ (.head _))) h.own) ?_
  rintro u L' ⟨rfl, rfl⟩
  repeat' first
    | refine k_then ?_ | refine s_nil ?_ | refine s_assign (by exact rfl) (by exact rfl) ?_ | refine c_ret ?_ | fail
  refine ret1 [0] rfl rfl rfl ⟨rfl, rfl⟩
theorem asF_ok (bv : Value) (x : Nd) (r : List Nd) (tb vb : Nat) (old : Value) (w : World) (S : FS) (hv : RB w S vb 31 [.pointer (some ⟨tb, 0, none⟩)]) (hs : sats [boxHP tb 29 [old]] S w) :
    Calls Tryd.prog 33 #[chV bv (x :: r), .iface 31 (.pointer (some ⟨tb, 0, none⟩)), .agg #[hd 31, .pointer (some ⟨vb, 0, none⟩), .int .u64 150], rT 29] w
      (Post w S fun u L' => u = .bool true ∧ L' = [boxHP tb 29 [.pointer (some ⟨x.b, 0, none⟩)]]) := by
  refine enter (vs := [.iface 29 (.pointer (some ⟨x.b, 0, none⟩)), _, _, _]) Tryd.func33 rfl Tryd.ntmps33 rfl hs ?_
  repeat' first
    | refine k_then ?_ | refine c_seq ?_ | refine c_region ?_ | refine s_nil ?_ | refine s_assign (by exact rfl) (by exact rfl) ?_ | refine o_box (by exact rfl) (by exact rfl) (fun b => ?_) | refine c_block ?_ | fail
  refine c_loop (fun _ : Unit => True) (fun _ => [(0, .iface 29 (.pointer (some ⟨x.b, 0, none⟩))), (1, .iface 31 (.pointer (some ⟨tb, 0, none⟩))), (3, rT 29), (6, .pointer (some ⟨b, 0, none⟩))]) (fun _ => [boxHP b 70 [hd 31, .pointer (some ⟨vb, 0, none⟩), .int .u64 150], boxHP tb 29 [old]]) (fun _ => 0) () [0, 0] trivial rfl ⟨rfl, rfl, rfl, rfl, trivial⟩ ?_
  intro _ _
  repeat' first
    | refine c_seq ?_ | refine c_region ?_ | refine s_move (by exact rfl) (by exact rfl) ?_ | refine c_block ?_ | fail
  refine s_q rfl rfl (by exact rfl) (q_ext (fun w _ => cTypeOf _ _ (tF _) w) rfl (by exact rfl)).q ?_
  repeat' first
    | refine s_move (by exact rfl) (by exact rfl) ?_ | fail
  refine s_q rfl rfl (by exact rfl) (q_inv (fun w => iAssi _ _ _ aFF w) rfl (by exact rfl) (by exact rfl)).q ?_
  repeat' first
    | refine k_then ?_ | refine c_seq ?_ | refine c_region ?_ | refine s_nil ?_ | refine s_ldk_box (by exact rfl) (by exact rfl) (by exact .head _) (by exact rfl) (by exact rfl) ?_ | refine c_cond_t (by exact rfl) ?_ | fail
  refine s_q rfl rfl (by exact rfl) (q_ext (fun w h => cElemF vb tb w (rb_cell h hv rfl)) rfl (by exact rfl)).q ?_
  repeat' first
    | refine s_move (by exact rfl) (by exact rfl) ?_ | fail
  refine o_ext (g := fun b => .agg #[hd 29, .pointer (some ⟨b, 0, none⟩), .int .u64 150]) (fun w _ => cValF x.b w) (by exact rfl) (by exact rfl) (fun kb => ?_)
  skip
  refine o_extset (i := 2) rfl (fun w h => cSetF tb kb x.b old w (box_cell h (.head _) rfl).1 (box_cell h (.tail _ (.tail _ (.head _))) rfl)) (by exact rfl) (by exact rfl) ?_
  repeat' first
    | refine k_then ?_ | refine c_seq ?_ | refine c_region ?_ | refine s_nil ?_ | refine s_assign (by exact rfl) (by exact rfl) ?_ | refine c_ret ?_ | refine k_then_ret ?_ | refine k_blk_ret ?_ | fail
  refine ret1 [2] rfl rfl rfl ⟨rfl, rfl⟩
theorem AsF_ok (bv : Value) (x : Nd) (r : List Nd) (tb : Nat) (old : Value) (w : World) (S : FS) (hg : RC w S 0 (rT 27)) (hs : sats [boxHP tb 29 [old]] S w) :
    Calls Tryd.prog 11 #[chV bv (x :: r), .iface 31 (.pointer (some ⟨tb, 0, none⟩))] w
      (Post w S fun u L' => u = .bool true ∧ L' = [boxHP tb 29 [.pointer (some ⟨x.b, 0, none⟩)]]) := by
  refine enter (vs := [.iface 29 (.pointer (some ⟨x.b, 0, none⟩)), _]) Tryd.func11 rfl Tryd.ntmps11 rfl hs ?_
  repeat' first
    | refine k_then ?_ | refine c_seq ?_ | refine c_region ?_ | refine s_nil ?_ | refine s_move (by exact rfl) (by exact rfl) ?_ | refine s_assign (by exact rfl) (by exact rfl) ?_ | refine c_skip ?_ | refine c_cond_f (by exact rfl) ?_ | refine s_q rfl rfl (by exact rfl) (q_nil_f rfl (by exact rfl)).q ?_ | fail
  refine o_ext (g := fun b => .agg #[hd 31, .pointer (some ⟨b, 0, none⟩), .int .u64 150]) (fun w _ => cValPF tb w) (by exact rfl) (by exact rfl) (fun vb => ?_)
  repeat' first
    | refine o_alloc (by exact rfl) (fun b => ?_) | fail
  refine o_stk_box (i := 0) (us := [hd 31, .pointer (some ⟨vb, 0, none⟩), .int .u64 150]) (by exact rfl) (by exact rfl) (by exact rfl) (by exact rfl) (by exact rfl) (by
    intro u hu
    simp only [List.mem_cons, List.mem_nil_iff, or_false] at hu
    rcases hu with rfl | rfl | rfl <;> rfl) (by decide) ?_
  repeat' first
    | refine k_then ?_ | refine c_seq ?_ | refine c_region ?_ | refine s_nil ?_ | refine s_ldk_box (by exact rfl) (by exact rfl) (by exact .head _) (by exact rfl) (by exact rfl) ?_ | fail
  refine s_q rfl rfl (by exact rfl) (q_ext (fun w _ => cTypePF vb w) rfl (by exact rfl)).q ?_
  repeat' first
    | refine k_then ?_ | refine c_seq ?_ | refine c_region ?_ | refine s_nil ?_ | refine s_move (by exact rfl) (by exact rfl) ?_ | refine s_assign (by exact rfl) (by exact rfl) ?_ | fail
  refine s_q rfl rfl (by exact rfl) (q_inv (iKind _ _ kPF) rfl (by exact rfl) (by exact rfl)).q ?_
  repeat' first
    | refine s_move (by exact rfl) (by exact rfl) ?_ | refine s_neq (by exact rfl) (by exact rfl) (by exact rfl) ?_ | (refine g_case (by exact rfl) (by exact rfl) (fun h => ?_) (fun h => ?_) <;> try (exfalso; omega)) | refine w_ldk_box (by exact rfl) (by exact rfl) (by exact rfl) (by exact rfl) (by exact .head _) (by exact rfl) (by exact rfl) ?_ | refine g_on (by exact rfl) (by exact rfl) ?_ | fail
  refine s_q rfl rfl (by exact rfl) (q_ext (fun w h => cNilPF vb tb w (box_cell h (.tail _ (.head _)) rfl).1) rfl (by exact rfl)).q ?_
  repeat' first
    | refine k_then ?_ | refine c_seq ?_ | refine c_region ?_ | refine s_nil ?_ | refine s_move (by exact rfl) (by exact rfl) ?_ | refine s_pick_f (by exact rfl) (by exact rfl) (by exact rfl) ?_ | refine c_skip ?_ | refine c_cond_f (by exact rfl) ?_ | fail
  refine s_q rfl rfl (by exact rfl) (q_inv (iElem _ _ eF) rfl (by exact rfl) (by exact rfl)).q ?_
  repeat' first
    | refine k_then ?_ | refine c_seq ?_ | refine c_region ?_ | refine s_nil ?_ | refine s_move (by exact rfl) (by exact rfl) ?_ | refine s_assign (by exact rfl) (by exact rfl) ?_ | fail
  refine s_q rfl rfl (by exact rfl) (q_inv (iKind _ _ kF) rfl (by exact rfl) (by exact rfl)).q ?_
  repeat' first
    | refine s_move (by exact rfl) (by exact rfl) ?_ | refine s_neq (by exact rfl) (by exact rfl) (by exact rfl) ?_ | (refine g_case (by exact rfl) (by exact rfl) (fun h => ?_) (fun h => ?_) <;> try (exfalso; omega)) | refine w_move (by exact rfl) (by exact rfl) (by exact rfl) (by exact rfl) ?_ | refine g_on (by exact rfl) (by exact rfl) ?_ | fail
  refine s_q rfl rfl (by exact rfl) (q_ld_rc hg rfl (by exact rfl)).q ?_
  repeat' first
    | refine g_on (by exact rfl) (by exact rfl) ?_ | fail
  refine s_q rfl rfl (by exact rfl) (q_inv (iImpl _ _ _ iF) rfl (by exact rfl) (by exact rfl)).q ?_
  repeat' first
    | refine k_then ?_ | refine c_seq ?_ | refine c_region ?_ | refine s_nil ?_ | refine s_move (by exact rfl) (by exact rfl) ?_ | refine s_pick_t (by exact rfl) (by exact rfl) (by exact rfl) ?_ | refine s_ldk_box (by exact rfl) (by exact rfl) (by exact .head _) (by exact rfl) (by exact rfl) ?_ | refine c_skip ?_ | refine c_cond_f (by exact rfl) ?_ | refine w_not (by exact rfl) (by exact rfl) (by exact rfl) (by exact rfl) ?_ | fail
  refine c_pick [2, 0, 0] (by exact rfl) ?_
  refine s_lend [boxHP tb 29 [old]] _ (by exact rfl) (by exact rfl) (by exact rfl) (fun w S h => asF_ok bv x r tb vb old w S (h.rb_own (.tail _ (.head _))) h.own) ?_
  rintro u L' ⟨rfl, rfl⟩
  repeat' first
    | refine k_then ?_ | refine s_nil ?_ | refine s_assign (by exact rfl) (by exact rfl) ?_ | refine c_ret ?_ | fail
  refine ret1 [0] rfl rfl rfl ⟨rfl, rfl⟩
end Go.Proofs.YtllkoinbfegonaaDoor
end
section
set_option linter.unusedVariables false
namespace Go.Proofs.YtllkoinbfegonaaDoor
open Go Go.RowKit Go.Sl Go.Stop Go.Extern.Stop Go.Extern
set_option maxRecDepth 100000
set_option maxHeartbeats 8000000
set_option linter.unusedVariables false
set_option linter.unusedSimpArgs false
attribute [local irreducible] Code.wp wpList bodyPost wpQuiet Exit.then Exit.inBlock Post wpAnyH wpOp
theorem FOf_ok (k : Int) (r : List Nd) (w : World) (hg : RC w No 0 (rT 27)) (hr : ChR w No (.iface 23 (.int .i64 k)) r) :
    Calls Tryd.prog 15 #[chV (.iface 23 (.int .i64 k)) r] w (Post w No (Just (.int .i64 k))) := by
  obtain ⟨tt, uu, e⟩ := chV_if (bv := .iface 23 (.int .i64 k)) ⟨_, _, rfl⟩ r
  refine enter0 (vs := [_]) Tryd.func15 rfl Tryd.ntmps15 rfl ?_
  repeat' first
    | refine k_then ?_ | refine c_seq ?_ | refine c_region ?_ | refine s_nil ?_ | refine s_move (by exact rfl) (by exact rfl) ?_ | refine s_assign (by exact rfl) (by exact rfl) ?_ | fail
  refine s_q rfl rfl (by exact rfl) (q_nil_f rfl (by exact congrArg some e)).q ?_
  repeat' first
    | refine k_then ?_ | refine c_seq ?_ | refine c_region ?_ | refine s_nil ?_ | refine s_move (by exact rfl) (by exact rfl) ?_ | refine o_alloc (by exact rfl) (fun b => ?_) | refine c_skip ?_ | refine c_cond_f (by exact rfl) ?_ | refine s_q rfl rfl (by exact rfl) (q_iface rfl (by exact rfl)).q ?_ | fail
  refine s_lend [boxHP b 23 [.int .i64 0]] [] (by exact rfl) (by exact rfl) (by exact rfl) (fun w S h => AsK_ok k r b _ w S (hg.lent h) (hr.lent h) h.own) ?_
  rintro u L' ⟨rfl, rfl⟩
  repeat' first
    | refine k_then ?_ | refine c_seq ?_ | refine c_region ?_ | refine s_nil ?_ | refine s_assign (by exact rfl) (by exact rfl) ?_ | refine s_ld_box (by exact rfl) (by exact rfl) (by exact .head _) (by exact rfl) ?_ | refine c_ret ?_ | refine k_then_ret ?_ | refine c_cond_t (by exact rfl) ?_ | fail
  exact ret1 [] rfl rfl rfl ⟨rfl, rfl⟩
end Go.Proofs.YtllkoinbfegonaaDoor
end
section
set_option linter.unusedVariables false
namespace Go.Proofs.YtllkoinbfegonaaDoor
open Go Go.RowKit Go.Sl Go.Stop Go.Extern.Stop Go.Extern
set_option maxRecDepth 100000
set_option maxHeartbeats 8000000
set_option linter.unusedVariables false
set_option linter.unusedSimpArgs false
attribute [local irreducible] Code.wp wpList bodyPost wpQuiet Exit.then Exit.inBlock Post wpAnyH wpOp
/-- a list of steps, cell by cell -/
abbrev Stp := ByteArray × Int
def stV (l : List Stp) : List Value := l.flatMap fun x => [.string x.1, .int .i64 x.2]
theorem stV_length (l : List Stp) : (stV l).length = l.length * 2 := by
  induction l with
  | nil => rfl
  | cons x l ih => show (Value.string x.1 :: Value.int .i64 x.2 :: stV l).length = _; simp [ih]; omega
theorem stV_0 : ∀ {l : List Stp} {k : Nat} {x : Stp}, l[k]? = some x → (stV l)[k * 2]? = some (.string x.1)
  | [], _, _, h => by simp at h
  | y :: l, 0, x, h => by obtain rfl : y = x := by simpa using h
                          rfl
  | y :: l, k + 1, x, h => by
    show (Value.string y.1 :: Value.int .i64 y.2 :: stV l)[(k + 1) * 2]? = _
    rw [show (k + 1) * 2 = k * 2 + 1 + 1 by omega]
    simpa using stV_0 (l := l) (by simpa using h)
theorem stV_1 : ∀ {l : List Stp} {k : Nat} {x : Stp}, l[k]? = some x → (stV l)[k * 2 + 1]? = some (.int .i64 x.2)
  | [], _, _, h => by simp at h
  | y :: l, 0, x, h => by obtain rfl : y = x := by simpa using h
                          rfl
  | y :: l, k + 1, x, h => by
    show (Value.string y.1 :: Value.int .i64 y.2 :: stV l)[(k + 1) * 2 + 1]? = _
    rw [show (k + 1) * 2 + 1 = (k * 2 + 1) + 1 + 1 by omega]
    simpa using stV_1 (l := l) (by simpa using h)
/-- a chain's boxes, owned: the innermost first -/
def ndL (bv : Value) : List Nd → List HP
  | [] => []
  | x :: r => boxHP x.b 37 (ndC bv x r) :: ndL bv r
abbrev chHP (bv : Value) (r : List Nd) : HP := starHP (ndL bv r).reverse
theorem chR_sat {bv : Value} {w : World} : ∀ {r : List Nd} {Ks : List HP} {S : FS}, (∀ A ∈ ndL bv r, A ∈ Ks) → (starHP Ks).sat S w → ChR w No bv r
  | [], _, _, _, _ => trivial
  | x :: r, Ks, S, h, hs => ⟨by
    have h2 : (boxHP x.b 37 (ndC bv x r)).sat S w := sats_mem hs (h _ (.head _))
    intro w' S' hm
    exact (hm.below.block _ (Array.getElem?_eq_some_iff.1 h2.2).1).trans h2.2, chR_sat (fun A hA => h A (.tail _ hA)) hs⟩
theorem chR_own {w0 w : World} {S0 : FS} {L : List HP} {bv : Value} {r : List Nd} (hs : St w0 S0 L w) (hL : chHP bv r ∈ L) : ChR w No bv r := by
  obtain ⟨S, hsat⟩ := hs.mem hL
  exact chR_sat (fun A hA => List.mem_reverse.2 hA) hsat
theorem WrapNil_ok (s : ByteArray) (i : Int) (w : World) : Calls Tryd.prog 19 #[.string s, .int .i64 i, .nilIface] w (Post w No (Just .nilIface)) := by
  refine enter0 (vs := [_, _, _]) Tryd.func19 rfl Tryd.ntmps19 rfl ?_
  repeat' first
    | refine k_then ?_ | refine c_seq ?_ | refine c_region ?_ | refine s_nil ?_ | refine s_move (by exact rfl) (by exact rfl) ?_ | refine s_assign (by exact rfl) (by exact rfl) ?_ | refine c_ret ?_ | refine k_then_ret ?_ | refine c_cond_t (by exact rfl) ?_ | refine s_q rfl rfl (by exact rfl) (q_nil_t rfl (by exact rfl)).q ?_ | fail
  exact ret1 [] rfl rfl rfl ⟨rfl, rfl⟩
theorem WrapOK_ok (s : ByteArray) (i : Int) (w : World) : Calls Tryd.prog 19 #[.string s, .int .i64 i, .iface 23 (.int .i64 0)] w (Post w No (Just .nilIface)) := by
  refine enter0 (vs := [_, _, _]) Tryd.func19 rfl Tryd.ntmps19 rfl ?_
  repeat' first
    | refine k_then ?_ | refine c_seq ?_ | refine c_region ?_ | refine s_nil ?_ | refine s_move (by exact rfl) (by exact rfl) ?_ | refine s_assign (by exact rfl) (by exact rfl) ?_ | refine c_skip ?_ | refine c_cond_f (by exact rfl) ?_ | refine s_q rfl rfl (by exact rfl) (q_nil_f rfl (by exact rfl)).q ?_ | fail
  refine s_q rfl rfl (by exact rfl) (q_assert (asKK _) rfl (by exact rfl)).q ?_
  repeat' first
    | refine k_then ?_ | refine c_seq ?_ | refine c_region ?_ | refine s_nil ?_ | refine s_move (by exact rfl) (by exact rfl) ?_ | refine s_assign (by exact rfl) (by exact rfl) ?_ | refine s_extract (by exact rfl) (by exact rfl) (by exact rfl) ?_ | refine s_pick_t (by exact rfl) (by exact rfl) (by exact rfl) ?_ | refine c_ret ?_ | refine k_then_ret ?_ | (refine c_cond_p (by exact rfl) (fun h => ?_) (fun h => ?_) <;> try (exfalso; omega)) | refine w_move (by exact rfl) (by exact rfl) (by exact rfl) (by exact rfl) ?_ | refine w_eql (by exact rfl) (by exact rfl) (by exact rfl) (by exact rfl) (by exact rfl) ?_ | fail
  exact ret1 [] rfl rfl rfl ⟨rfl, rfl⟩
/-- one more around a chain -/
def Wrapped (bv : Value) (r : List Nd) (s : ByteArray) (i : Int) (v : Value) (L : List HP) : Prop :=
  ∃ b, v = chV bv (⟨b, s, i⟩ :: r) ∧ L = [boxHP b 37 (ndC bv ⟨b, s, i⟩ r)]
theorem WrapK_ok (s : ByteArray) (i k : Int) (w : World) (hk : k ≠ 0) : Calls Tryd.prog 19 #[.string s, .int .i64 i, .iface 23 (.int .i64 k)] w (Post w No (Wrapped (.iface 23 (.int .i64 k)) [] s i)) := by
  refine enter0 (vs := [_, _, _]) Tryd.func19 rfl Tryd.ntmps19 rfl ?_
  repeat' first
    | refine k_then ?_ | refine c_seq ?_ | refine c_region ?_ | refine s_nil ?_ | refine s_move (by exact rfl) (by exact rfl) ?_ | refine s_assign (by exact rfl) (by exact rfl) ?_ | refine c_skip ?_ | refine c_cond_f (by exact rfl) ?_ | refine s_q rfl rfl (by exact rfl) (q_nil_f rfl (by exact rfl)).q ?_ | fail
  refine s_q rfl rfl (by exact rfl) (q_assert (asKK _) rfl (by exact rfl)).q ?_
  repeat' first
    | refine k_then ?_ | refine c_seq ?_ | refine c_region ?_ | refine s_nil ?_ | refine s_move (by exact rfl) (by exact rfl) ?_ | refine s_assign (by exact rfl) (by exact rfl) ?_ | refine s_extract (by exact rfl) (by exact rfl) (by exact rfl) ?_ | refine s_pick_t (by exact rfl) (by exact rfl) (by exact rfl) ?_ | refine c_skip ?_ | (refine c_cond_p (by exact rfl) (fun h => ?_) (fun h => ?_) <;> try (exfalso; omega)) | refine w_move (by exact rfl) (by exact rfl) (by exact rfl) (by exact rfl) ?_ | refine w_eql (by exact rfl) (by exact rfl) (by exact rfl) (by exact rfl) (by exact rfl) ?_ | fail
  refine o_build [(0, .string s, [.string s]), (1, .int .i64 i, [.int .i64 i]), (2, .iface 23 (.int .i64 k), [.iface 23 (.int .i64 k)])] (by exact rfl) (by exact rfl) (by simp [Value.cells]) (by exact rfl) ?_
  repeat' first
    | refine k_then ?_ | refine s_nil ?_ | refine s_assign (by exact rfl) (by exact rfl) ?_ | refine o_box (by exact rfl) (by exact rfl) (fun b => ?_) | refine c_ret ?_ | refine s_q rfl rfl (by exact rfl) (q_iface rfl (by exact rfl)).q ?_ | fail
  exact ret1 [0] rfl rfl rfl ⟨b, rfl, rfl⟩
theorem WrapF_ok (s : ByteArray) (i : Int) (bv : Value) (x : Nd) (r : List Nd) (w : World) : Calls Tryd.prog 19 #[.string s, .int .i64 i, chV bv (x :: r)] w (Post w No (Wrapped bv (x :: r) s i)) := by
  refine enter0 (vs := [_, _, .iface 29 (.pointer (some ⟨x.b, 0, none⟩))]) Tryd.func19 rfl Tryd.ntmps19 rfl ?_
  repeat' first
    | refine k_then ?_ | refine c_seq ?_ | refine c_region ?_ | refine s_nil ?_ | refine s_move (by exact rfl) (by exact rfl) ?_ | refine s_assign (by exact rfl) (by exact rfl) ?_ | refine c_skip ?_ | refine c_cond_f (by exact rfl) ?_ | refine s_q rfl rfl (by exact rfl) (q_nil_f rfl (by exact rfl)).q ?_ | fail
  refine s_q rfl rfl (by exact rfl) (q_assert (asFK _) rfl (by exact rfl)).q ?_
  repeat' first
    | refine k_then ?_ | refine c_seq ?_ | refine c_region ?_ | refine s_nil ?_ | refine s_move (by exact rfl) (by exact rfl) ?_ | refine s_assign (by exact rfl) (by exact rfl) ?_ | refine s_extract (by exact rfl) (by exact rfl) (by exact rfl) ?_ | refine s_pick_f (by exact rfl) (by exact rfl) (by exact rfl) ?_ | refine c_skip ?_ | refine c_cond_f (by exact rfl) ?_ | refine g_skip (by exact rfl) (by exact rfl) (by exact rfl) (by exact rfl) ?_ | fail
  refine o_build [(0, .string s, [.string s]), (1, .int .i64 i, [.int .i64 i]), (2, .iface 29 (.pointer (some ⟨x.b, 0, none⟩)), [.iface 29 (.pointer (some ⟨x.b, 0, none⟩))])] (by exact rfl) (by exact rfl) (by simp [Value.cells]) (by exact rfl) ?_
  repeat' first
    | refine k_then ?_ | refine s_nil ?_ | refine s_assign (by exact rfl) (by exact rfl) ?_ | refine o_box (by exact rfl) (by exact rfl) (fun b => ?_) | refine c_ret ?_ | refine s_q rfl rfl (by exact rfl) (q_iface rfl (by exact rfl)).q ?_ | fail
  exact ret1 [0] rfl rfl rfl ⟨b, rfl, rfl⟩
theorem WrapC_ok (s : ByteArray) (i k : Int) (hk : k ≠ 0) (r : List Nd) (w : World) : Calls Tryd.prog 19 #[.string s, .int .i64 i, chV (.iface 23 (.int .i64 k)) r] w (Post w No (Wrapped (.iface 23 (.int .i64 k)) r s i)) := by
  cases r with
  | nil => exact WrapK_ok s i k w hk
  | cons x r => exact WrapF_ok s i _ x r w
/-- a chain made of steps -/
def ndOf (r : List Nd) : List Stp := r.map fun x => (x.s, x.i)
theorem wrapped_ok (v : Value) (l : List Stp) (k : Int) (hk : k ≠ 0) (w : World) (hs : Shp v l.length) (hr : RO w No v (stV l)) :
    Calls Tryd.prog 10 #[v, .int .i64 k] w (Post w No fun u L' => ∃ r, u = chV (.iface 23 (.int .i64 k)) r ∧ ndOf r = l.reverse ∧ L' = [chHP (.iface 23 (.int .i64 k)) r]) := by
  have hm := hs.1
  simp only [maxLen] at hm
  refine enter0 (vs := [_, _]) Tryd.func10 rfl Tryd.ntmps10 rfl ?_
  repeat' first
    | refine k_then ?_ | refine c_seq ?_ | refine c_region ?_ | refine s_nil ?_ | refine s_move (by exact rfl) (by exact rfl) ?_ | refine s_assign (by exact rfl) (by exact rfl) ?_ | refine c_block ?_ | refine s_q rfl rfl (by exact rfl) (q_iface rfl (by exact rfl)).q ?_ | fail
  refine c_star0 ?_
  refine c_loop (fun x : Nat × List Nd => x.1 ≤ l.length ∧ ndOf x.2 = (l.take x.1).reverse) (fun x => [(0, v), (5, chV (.iface 23 (.int .i64 k)) x.2), (6, .int .i64 (x.1 : Int))]) (fun x => [chHP (.iface 23 (.int .i64 k)) x.2]) (fun x => l.length - x.1) (0, []) [0] ⟨Nat.zero_le _, rfl⟩ rfl ⟨rfl, rfl, rfl, trivial⟩ ?_
  rintro ⟨j, r⟩ ⟨hj, hn⟩
  dsimp only at hj hn ⊢
  repeat' first
    | refine k_then ?_ | refine c_seq ?_ | refine c_region ?_ | refine s_nil ?_ | refine s_move (by exact rfl) (by exact rfl) ?_ | refine s_assign (by exact rfl) (by exact rfl) ?_ | refine s_lss (by exact rfl) (by exact rfl) (by exact rfl) ?_ | refine s_len (by exact rfl) (by exact rfl) (by assumption) ?_ | refine c_block ?_ | refine c_skip ?_ | refine c_exit ?_ | refine c_ret ?_ | refine k_then_exit ?_ | refine k_blk_eq ?_ | (refine c_cond_p (by exact rfl) (fun h => ?_) (fun h => ?_) <;> try (exfalso; omega)) | fail
  · obtain ⟨x, hx⟩ : ∃ x, l[j]? = some x := ⟨_, List.getElem?_eq_getElem (by omega)⟩
    have g0 := stV_0 hx
    have g1 := stV_1 hx
    refine p_begin0 [(0, true), (1, true), (2, true), (3, true), (4, true), (5, true), (6, true), (7, true), (8, true), (9, true), (10, true), (11, false), (12, true)] (by kernel_rfl) ?_
    repeat' first
      | (refine p_at (by exact rfl) ?_
         first
          | refine t_move (by exact rfl) (by exact rfl) (by exact fun _ h => h) ?_ | refine t_idx (by exact rfl) (by exact rfl) (by exact rfl) (by assumption) (by first | assumption | omega) (by exact fun _ h => h) ?_ | refine t_fap (by exact rfl) (by exact rfl) (by assumption) (by omega) (by exact fun _ h => h) ?_ | refine t_ld_ro (by exact rfl) (by exact rfl) (by assumption) (by assumption) (by exact fun _ h => h) ?_ | fail)
      | fail
    refine p_call' (vs := [.string x.1, .int .i64 x.2, chV (.iface 23 (.int .i64 k)) r]) (by exact rfl) (by exact rfl) (by exact rfl) (fun w h => WrapC_ok x.1 x.2 k hk r w) ?_
    rintro u L' ⟨b, rfl, rfl⟩
    refine ⟨fun w h => h.tl, ?_⟩
    repeat' first
      | refine p_nil ?_
      | (refine p_at (by exact rfl) ?_
         first
          | refine t_assign (by exact rfl) (by exact rfl) (by exact fun _ h => h.tl) ?_ | fail)
      | fail
    repeat' first
      | refine k_then ?_ | refine c_region ?_ | refine s_nil ?_ | refine s_move (by exact rfl) (by exact rfl) ?_ | refine s_assign (by exact rfl) (by exact rfl) ?_ | refine s_add (by exact rfl) (by exact rfl) (by exact rfl) (by omega) ?_ | refine k_blk ?_ | fail
    refine c_pushk 0 rfl ?_
    refine c_round (j + 1, (⟨b, x.1, x.2⟩ :: r : List Nd)) [0] (by show some [starHP _] = some [starHP _]; rw [ndL, List.reverse_cons]) ⟨rfl, rfl, rfl, trivial⟩ ⟨by show j + 1 ≤ _; omega, by
      show (x.1, x.2) :: ndOf r = _
      rw [hn, List.take_add_one, hx]; simp⟩ (by show l.length - (j + 1) < l.length - j; omega)
  · refine ret1 [0] rfl rfl rfl ⟨r, rfl, by rw [hn, List.take_of_length_le (by omega)], rfl⟩
def sizes (l : List Stp) : Nat := (l.map fun x => x.1.size).sum
def lightK (l : List Stp) : Bool := decide (l.length ≤ 50 ∧ sizes l ≤ 5000)
theorem sizes_take {l : List Stp} {j : Nat} {x : Stp} (h : l[j]? = some x) : sizes (l.take (j + 1)) = sizes (l.take j) + x.1.size := by
  rw [List.take_add_one, h]; simp [sizes]
theorem sizes_le : ∀ {l : List Stp} {B : Nat}, (∀ x ∈ l, x.1.size ≤ B) → sizes l ≤ l.length * B
  | [], _, _ => by simp [sizes]
  | x :: l, B, h => by
    have h1 := h x (.head _)
    have h2 := sizes_le (l := l) (B := B) fun y hy => h y (.tail _ hy)
    simp only [sizes, List.map_cons, List.sum_cons, List.length_cons] at h2 ⊢
    rw [Nat.add_mul]; omega
theorem light_ok (v : Value) (l : List Stp) (w : World) (hs : Shp v l.length) (hr : RO w No v (stV l)) (hz : ∀ x ∈ l, x.1.size ≤ 140737488351232) :
    Calls Tryd.prog 8 #[v] w (Post w No (Just (.bool (lightK l)))) := by
  have hm := hs.1
  simp only [maxLen] at hm
  refine enter0 (vs := [_]) Tryd.func8 rfl Tryd.ntmps8 rfl ?_
  repeat' first
    | refine k_then ?_ | refine c_seq ?_ | refine c_region ?_ | refine s_nil ?_ | refine s_assign (by exact rfl) (by exact rfl) ?_ | refine c_block ?_ | fail
  refine c_loop (fun x : Nat × Int => x.1 ≤ l.length ∧ (x.1 ≤ 60 → x.2 = (sizes (l.take x.1) : Int))) (fun x => [(0, v), (3, .int .i64 x.2), (4, .int .i64 (x.1 : Int))]) (fun _ => []) (fun x => l.length - x.1) (0, 0) [] ⟨Nat.zero_le _, fun _ => by simp [sizes]⟩ rfl ⟨rfl, rfl, rfl, trivial⟩ ?_
  rintro ⟨j, z⟩ ⟨hj, hn⟩
  dsimp only at hj hn ⊢
  repeat' first
    | refine k_then ?_ | refine c_seq ?_ | refine c_region ?_ | refine s_nil ?_ | refine s_move (by exact rfl) (by exact rfl) ?_ | refine s_assign (by exact rfl) (by exact rfl) ?_ | refine s_lss (by exact rfl) (by exact rfl) (by exact rfl) ?_ | refine s_leq (by exact rfl) (by exact rfl) (by exact rfl) ?_ | refine s_len (by exact rfl) (by exact rfl) (by assumption) ?_ | refine s_idx (by exact rfl) (by exact rfl) (by exact rfl) (by assumption) (by first | assumption | omega) ?_ | refine s_fap (by exact rfl) (by exact rfl) (by assumption) (by omega) ?_ | refine s_pick_t (by exact rfl) (by exact rfl) (by exact rfl) ?_ | refine s_pick_f (by exact rfl) (by exact rfl) (by exact rfl) ?_ | refine c_block ?_ | refine c_skip ?_ | refine c_exit ?_ | refine c_ret ?_ | refine k_then_exit ?_ | refine k_blk_eq ?_ | (refine c_cond_p (by exact rfl) (fun h => ?_) (fun h => ?_) <;> try (exfalso; omega)) | (refine g_case (by exact rfl) (by exact rfl) (fun h => ?_) (fun h => ?_) <;> try (exfalso; omega)) | refine g_skip (by exact rfl) (by exact rfl) (by exact rfl) (by exact rfl) ?_ | refine w_move (by exact rfl) (by exact rfl) (by exact rfl) (by exact rfl) ?_ | refine w_leq (by exact rfl) (by exact rfl) (by exact rfl) (by exact rfl) (by exact rfl) ?_ | fail
  · obtain ⟨x, hx⟩ : ∃ x, l[j]? = some x := ⟨_, List.getElem?_eq_getElem (by omega)⟩
    have g0 := stV_0 hx
    repeat' first
      | refine s_lens (by exact rfl) (by exact rfl) ?_ | refine s_ld_ro (by exact rfl) (by exact rfl) (by assumption) (by assumption) ?_ | fail
    refine s_q rfl rfl (by exact rfl) (q_addw rfl (by exact rfl) (by exact rfl)).q ?_
    repeat' first
      | refine k_then ?_ | refine c_region ?_ | refine s_nil ?_ | refine s_move (by exact rfl) (by exact rfl) ?_ | refine s_assign (by exact rfl) (by exact rfl) ?_ | refine s_add (by exact rfl) (by exact rfl) (by exact rfl) (by omega) ?_ | refine k_blk ?_ | fail
    refine c_round (j + 1, _) [] rfl ⟨rfl, rfl, rfl, trivial⟩ ⟨by show j + 1 ≤ _; omega, fun h60 => ?_⟩ (by show l.length - (j + 1) < l.length - j; omega)
    have h60' : j + 1 ≤ 60 := h60
    show IntKind.wrap .i64 (z + (x.1.size : Int)) = _
    have hb := sizes_le (l := l.take j) (B := 140737488351232) fun y hy => hz y (List.mem_of_mem_take hy)
    have hlt : (l.take j).length ≤ 60 := by rw [List.length_take]; omega
    have hb2 : (l.take j).length * 140737488351232 ≤ 60 * 140737488351232 := Nat.mul_le_mul_right _ hlt
    have hx2 := hz x (List.mem_of_getElem? hx)
    rw [hn (by omega), wrap_id (by simp [IntKind.min, IntKind.max, IntKind.signed, IntKind.bits]; omega), sizes_take hx]
    omega
  · rename_i h50
    have e : j = l.length := by omega
    have hz2 := hn (by omega)
    rw [e, List.take_length] at hz2
    refine ret1 [] rfl rfl rfl ⟨congrArg Value.bool ?_, rfl⟩
    rw [lightK, decide_eq_decide, hz2]
    omega
  · rename_i h50
    refine ret1 [] rfl rfl rfl ⟨congrArg Value.bool ?_, rfl⟩
    rw [lightK, decide_eq_false]
    omega
end Go.Proofs.YtllkoinbfegonaaDoor
end
section
set_option linter.unusedVariables false
namespace Go.Proofs
open Go.Shelf
def Tryd.itoaLay_ren : Go.Shelf.Ren := ⟨fun | 171 => 34 | 243 => 53 | 246 => 63 | 283 => 71 | 284 => 72 | 285 => 73 | 286 => 74 | 129 => 88 | 317 => 90 | 318 => 91 | 319 => 92 | 320 => 93 | 337 => 106 | 338 => 107 | n => n, fun | 3 => 3 | 9 => 9 | 2 => 2 | 4 => 4 | 171 => 137 | 0 => 0 | 53 => 90 | 37 => 63 | 5 => 5 | 173 => 140 | 212 => 157 | 51 => 153 | 20 => 20 | 213 => 158 | 46 => 134 | 232 => 174 | 233 => 175 | n => n, fun | 17 => 1 | 18 => 3 | 19 => 4 | n => n⟩
theorem Tryd.itoaLay : Go.Proofs.LaysM.n171 Tryd.prog Tryd.itoaLay_ren := {
  mixed := by kernel_rfl
  f129 := Tryd.func88.trans (congrArg some (by kernel_rfl))
  f171 := Tryd.func34.trans (congrArg some (by kernel_rfl))
  f243 := Tryd.func53.trans (congrArg some (by kernel_rfl))
  f246 := Tryd.func63.trans (congrArg some (by kernel_rfl))
  f283 := Tryd.func71.trans (congrArg some (by kernel_rfl))
  f284 := Tryd.func72.trans (congrArg some (by kernel_rfl))
  f285 := Tryd.func73.trans (congrArg some (by kernel_rfl))
  f286 := Tryd.func74.trans (congrArg some (by kernel_rfl))
  f317 := Tryd.func90.trans (congrArg some (by kernel_rfl))
  f318 := Tryd.func91.trans (congrArg some (by kernel_rfl))
  f319 := Tryd.func92.trans (congrArg some (by kernel_rfl))
  f320 := Tryd.func93.trans (congrArg some (by kernel_rfl))
  f337 := Tryd.func106.trans (congrArg some (by kernel_rfl))
  f338 := Tryd.func107.trans (congrArg some (by kernel_rfl))
  t0 := Tryd.underlying0
  a0 := Tryd.isAgg0
  z0 := Tryd.sizeOf0
  v0 := Tryd.zeroValue0
  t2 := Tryd.underlying2
  a2 := Tryd.isAgg2
  z2 := Tryd.sizeOf2
  v2 := Tryd.zeroValue2
  t3 := Tryd.underlying3
  a3 := Tryd.isAgg3
  z3 := Tryd.sizeOf3
  v3 := Tryd.zeroValue3
  t4 := Tryd.underlying4
  a4 := Tryd.isAgg4
  z4 := Tryd.sizeOf4
  v4 := Tryd.zeroValue4
  t5 := Tryd.underlying5
  a5 := Tryd.isAgg5
  z5 := Tryd.sizeOf5
  v5 := Tryd.zeroValue5
  t9 := Tryd.underlying9
  a9 := Tryd.isAgg9
  z9 := Tryd.sizeOf9
  v9 := Tryd.zeroValue9
  t20 := Tryd.underlying20
  a20 := Tryd.isAgg20
  z20 := Tryd.sizeOf20
  v20 := Tryd.zeroValue20
  t37 := Tryd.underlying63
  a37 := Tryd.isAgg63
  z37 := Tryd.sizeOf63
  v37 := Tryd.zeroValue63
  t46 := Tryd.underlying134
  a46 := Tryd.isAgg134
  z46 := Tryd.sizeOf134
  v46 := Tryd.zeroValue134
  t51 := Tryd.underlying153
  a51 := Tryd.isAgg153
  z51 := Tryd.sizeOf153
  v51 := Tryd.zeroValue153
  t53 := Tryd.underlying90
  a53 := Tryd.isAgg90
  z53 := Tryd.sizeOf90
  v53 := Tryd.zeroValue90
  t171 := Tryd.underlying137
  a171 := Tryd.isAgg137
  z171 := Tryd.sizeOf137
  v171 := Tryd.zeroValue137
  t173 := Tryd.underlying140
  a173 := Tryd.isAgg140
  z173 := Tryd.sizeOf140
  v173 := Tryd.zeroValue140
  t212 := Tryd.underlying157
  a212 := Tryd.isAgg157
  z212 := Tryd.sizeOf157
  v212 := Tryd.zeroValue157
  t213 := Tryd.underlying158
  a213 := Tryd.isAgg158
  z213 := Tryd.sizeOf158
  t232 := Tryd.underlying174
  a232 := Tryd.isAgg174
  z232 := Tryd.sizeOf174
  v232 := Tryd.zeroValue174
  t233 := Tryd.underlying175
  a233 := Tryd.isAgg175
  z233 := Tryd.sizeOf175
  v233 := Tryd.zeroValue175
  g17 := by kernel_rfl
  g18 := by kernel_rfl
  g19 := by kernel_rfl
  i0 := by kernel_rfl
  i2 := by kernel_rfl
  i3 := by kernel_rfl
  i4 := by kernel_rfl
  i5 := by kernel_rfl
  i9 := by kernel_rfl
  i20 := by kernel_rfl
  i37 := by kernel_rfl
  i46 := by kernel_rfl
  i51 := by kernel_rfl
  i53 := by kernel_rfl
  i171 := by kernel_rfl
  i173 := by kernel_rfl
  i212 := by kernel_rfl
  i232 := by kernel_rfl
  i233 := by kernel_rfl
  m17 := by kernel_rfl
  m18 := by kernel_rfl
  m19 := by kernel_rfl }
end Go.Proofs
namespace Go.Proofs.YtllkoinbfegonaaDoor
open Go Go.RowKit Go.Sl Go.Stop Go.Extern.Stop Go.Extern
theorem mod_grow (w : World) (k : Nat) (xs : Array Obj) : Mod w No (_root_.Go.Sort.grow (w.drewN k) xs) No :=
  ⟨rfl, rfl, rfl, Nat.le_add_right _ _, by show _ ≤ (w.heap ++ xs).size; simp, fun i hi _ => by
    show (w.heap ++ xs)[i]? = _
    rw [Array.getElem?_append_left hi], fun i h => h.elim⟩
/-- the table of powers, where it is read -/
def RT (w : World) (S : FS) : Prop := ∀ w' S', Mod w S w' S' → Lib.TabIs Tryd.prog w' "internal/strconv.uint64pow10" .u64 Lib.pow10Tab
theorem RT.old {w0 w : World} {S0 : FS} {L : List HP} (hs : St w0 S0 L w) (hr : RT w0 S0) : RT w No := by
  intro w' S' hm
  obtain ⟨S, hm0, _⟩ := hs
  exact hr w' (fun k => S k ∨ S' k) (hm0.trans ⟨hm.os, hm.tape, hm.output, hm.drawn, hm.size, fun k hk _ => hm.keep k hk (fun h => h), fun k hk => hk.imp id (fun h => (hm.new k h).elim (fun h => h.elim) id)⟩)
def itoaB (n : Int) : ByteArray := ⟨(Lib.itoa n).toArray⟩
theorem Itoa_ok (n : Int) (w : World) (h0 : -9223372036854775808 ≤ n) (h1 : n ≤ 9223372036854775807) (ht : RT w No) :
    Calls Tryd.prog 34 #[.int .i64 n] w (Post w No (Just (.string (itoaB n)))) := by
  have c := Any.strconv_Itoa Tryd.itoaLay n h0 h1 w (ht w No (Mod.refl _ _))
  change Calls Tryd.prog 34 _ _ _ at c
  refine Calls.mono c ?_
  rintro e w' ⟨rfl, k, os, rfl⟩
  exact ⟨_, [], ⟨rfl, rfl⟩, rfl, No, mod_grow w k os, trivial⟩
set_option maxRecDepth 100000
set_option maxHeartbeats 8000000
set_option linter.unusedVariables false
set_option linter.unusedSimpArgs false
attribute [local irreducible] Code.wp wpList bodyPost wpQuiet Exit.then Exit.inBlock Post wpAnyH wpOp
end Go.Proofs.YtllkoinbfegonaaDoor
end
section
set_option linter.unusedVariables false
set_option linter.unusedSimpArgs false
namespace Go.Sl
open Go Go.RowKit
section
variable {P : Program} {w0 : World} {S0 : FS} {n : Nat} {F : List (Nat × Value)} {L : List HP} {o : Oper} {rest : List Oper} {ops : Array Oper} {Q : Exit → Act → World → Prop} {d : Nat} {v : Value} {x y : Operand} {t t' : TypeId} {R : Act → World → Prop} {i j : Int}
theorem q_remt (ho : o.op = .binOp .rem t x y t') (hx : ev F x = some (.int .i64 i)) (hy : ev F y = some (.int .i64 j)) (h : 0 < j) : R1 P w0 S0 n F L o (.int .i64 (i.tmod j)) :=
  q_of_pure fun a hf w => by
    have hj : ¬ j = 0 := by omega
    simp [execOp, ho, hf.eval hx, hf.eval hy, eqGuard, binOp, Op.intDiv, hj]
theorem q_quot (ho : o.op = .binOp .quo t x y t') (hx : ev F x = some (.int .i64 i)) (hy : ev F y = some (.int .i64 j)) (h : 0 < j) (hb : -9223372036854775808 ≤ i.tdiv j ∧ i.tdiv j ≤ 9223372036854775807) : R1 P w0 S0 n F L o (.int .i64 (i.tdiv j)) :=
  q_of_pure fun a hf w => by
    have hj : ¬ j = 0 := by omega
    have hw : IntKind.wrap .i64 (i.tdiv j) = i.tdiv j := wrap_id (by simpa [IntKind.min, IntKind.max, IntKind.signed, IntKind.bits] using hb)
    simp [execOp, ho, hf.eval hx, hf.eval hy, eqGuard, binOp, Op.intDiv, hj, hw]
theorem q_pne_f {ad : Addr} [T : PtTy P t] (ho : o.op = .binOp .neq t x (.const (.pointer none)) t') (hx : ev F x = some (.pointer (some ad))) : R1 P w0 S0 n F L o (.bool true) :=
  q_of_pure fun a hf w => by
    obtain ⟨te, hu⟩ := T.u
    have h : ∀ d : Nat, (Op.equalIn (d + 1) t (.pointer (some ad)) (.pointer none)).run P w = .ok false w := fun d => by simp [Op.equalIn, run_underlying hu]
    have e : a.eval (.const (.pointer none)) = .pointer none := rfl
    simp only [execOp, ho, hf.eval hx, e, eqGuard, binOp]
    simp [Op.equal, Op.maxDepth, h 9999]
/-- in a region that draws: one that waits for a guard that is met -/
theorem dg_on {I : World → Prop} {Qa : Act → Prop} {ds : Option Tmp} {op : Op} {ty : TypeId} {ps : String} {af : Array Edge} {gd : Nat × Bool} {u : Nat} {want : Bool} (hg : gslot ops ⟨ds, op, ty, ps, af, some gd⟩ = some (u, want)) (ht : fget F u = some (.bool want))
    (h : RQ w0 S0 n F (wpQuiet P ops I Qa (⟨ds, op, ty, ps, af, none⟩ :: rest))) : RQ w0 S0 n F (wpQuiet P ops I Qa (⟨ds, op, ty, ps, af, some gd⟩ :: rest)) := by
  intro a hf
  have h1 := h a hf
  have e1 := wanted_of hf hg ht
  unfold wpQuiet at h1 ⊢
  rw [e1]
  simp only [Region.wanted, beq_self_eq_true, if_true] at h1 ⊢
  exact h1
theorem q_byte (hu : P.underlying t = some (.int .i64)) (hu' : P.underlying t' = some (.int .u8)) (ho : o.op = .convert t t' x) (hx : ev F x = some (.int .i64 i)) (h : 0 ≤ i ∧ i ≤ 255) : R1 P w0 S0 n F L o (.int .u8 i) :=
  q_of_pure fun ac hf w => by
    have e : IntKind.wrap .u8 i = i := wrap_id (by simp [IntKind.min, IntKind.max, IntKind.signed, IntKind.bits]; omega)
    simp [execOp, ho, hf.eval hx, Go.convert, run_underlying hu, run_underlying hu', Conv.intToInt, e]
theorem q_bytes {e : TypeId} {m : Nat} {xs : List Int} (hu : P.underlying t = some (.slice e)) (he : P.underlying e = some (.int .u8)) (hd : P.underlying t' = some .string) (ho : o.op = .convert t t' x) (hx : ev F x = some v) (hL : rowHP v e 1 m (xs.map (Value.int .u8)) ∈ L) (hl : xs.length = m) (h0 : 0 < m) : R1 P w0 S0 n F L o (.string (strOfNums xs)) :=
  q_of_run fun a hf w hs => by
    obtain ⟨S, hsat⟩ := hs.mem hL
    have rd := rowHP_rd hsat
    rcases (rowHP_shp hsat).2 with ⟨_, h⟩ | ⟨g, off, cap, rfl, _⟩ | ⟨_, h⟩
    · omega
    · have c := run_convert_bytes_arg (P := P) w t e hu he g off m cap xs hl (fun k hk => by
        have hk' : k < xs.length := by omega
        obtain ⟨g', off', m', cap', e1, hc⟩ := rd k (.int .u8 (xs.getD k 0)) (by simp [hk'])
        simp only [Value.slice.injEq, Option.some.injEq, Addr.mk.injEq] at e1
        obtain ⟨⟨rfl, rfl, _⟩, _⟩ := e1
        exact hc) t' hd
      simp only [execOp, ho, hf.eval hx, Sem.run_bind, c, Result.andThen_ok, Sem.run_pure]
    · omega
end
end Go.Sl
end
section
set_option linter.unusedVariables false
namespace Go.Proofs.YtllkoinbfegonaaDoor
open Go Go.RowKit Go.Sl
theorem str1 (u : Nat) (h : u < 10) : strOfNums [(48 : Int) + (u : Int)] = ⟨#[UInt8.ofNat (48 + u)]⟩ := by
  show (⟨_⟩ : ByteArray) = _
  congr 1
theorem itoaB_lo {n : Nat} (h : n < 10) : itoaB (n : Int) = strOfNums [(48 : Int) + (n : Int)] := by
  rw [str1 n h, itoaB, Lib.itoa, if_neg (by omega), Int.toNat_natCast, Lib.decDigits, dif_pos h]
theorem itoaB_hi {n : Nat} (h : ¬ n < 10) : itoaB (n : Int) = itoaB ((n / 10 : Nat) : Int) ++ strOfNums [(48 : Int) + ((n % 10 : Nat) : Int)] := by
  rw [str1 _ (by omega), itoaB, itoaB, Lib.itoa, Lib.itoa, if_neg (by omega), if_neg (by omega), Int.toNat_natCast, Int.toNat_natCast, Lib.decDigits, dif_neg h]
  apply ByteArray.ext
  simp
theorem itoaB_nlo {n : Nat} (h : n < 10) (h0 : 0 < n) : itoaB (-(n : Int)) = ⟨#[45]⟩ ++ strOfNums [(48 : Int) + (n : Int)] := by
  rw [str1 n h, itoaB, Lib.itoa, if_pos (by omega), Int.natAbs_neg, Int.natAbs_natCast, Lib.decDigits, dif_pos h]
  apply ByteArray.ext
  simp
theorem itoaB_nhi {n : Nat} (h : ¬ n < 10) : itoaB (-(n : Int)) = itoaB (-((n / 10 : Nat) : Int)) ++ strOfNums [(48 : Int) + ((n % 10 : Nat) : Int)] := by
  rw [str1 _ (by omega), itoaB, itoaB, Lib.itoa, Lib.itoa, if_pos (by omega), if_pos (by omega), Int.natAbs_neg, Int.natAbs_natCast, Int.natAbs_neg, Int.natAbs_natCast, Lib.decDigits, dif_neg h]
  apply ByteArray.ext
  simp
theorem dec_len : ∀ (k u : Nat), u < 10 ^ (k + 1) → (Lib.decDigits u).length ≤ k + 1
  | k, u, h => by
    rw [Lib.decDigits]
    split
    · simp
    · rename_i h10
      cases k with
      | zero => exact absurd h (by omega)
      | succ k =>
        have := dec_len k (u / 10) (by rw [Nat.pow_succ] at h; omega)
        simp; omega
theorem itoaB_size {n : Int} (h0 : -9223372036854775808 ≤ n) (h1 : n ≤ 9223372036854775807) : (itoaB n).size ≤ 64 := by
  show (Lib.itoa n).toArray.size ≤ 64
  rw [List.size_toArray, Lib.itoa]
  split
  · have := dec_len 19 n.natAbs (by omega)
    simp; omega
  · have := dec_len 19 n.toNat (by omega)
    omega
set_option maxRecDepth 100000
set_option maxHeartbeats 8000000
set_option linter.unusedVariables false
set_option linter.unusedSimpArgs false
attribute [local irreducible] Code.wp wpList bodyPost wpQuiet Exit.then Exit.inBlock Post wpAnyH wpOp
theorem Digits_nat : ∀ (m : Nat) (w : World), (m : Int) ≤ 9223372036854775807 → Calls Tryd.prog 22 #[.int .i64 (m : Int)] w (Post w No (Just (.string (itoaB (m : Int)))))
  | m, w, hm => by
    have hr : (m : Int).tmod 10 = ((m % 10 : Nat) : Int) := by rw [Int.tmod_eq_emod_of_nonneg (by omega)]; omega
    have hq : (m : Int).tdiv 10 = ((m / 10 : Nat) : Int) := by rw [Int.tdiv_eq_ediv_of_nonneg (by omega)]; omega
    refine enter0 (vs := [_]) Tryd.func22 rfl Tryd.ntmps22 rfl ?_
    repeat' first
      | refine k_then ?_ | refine c_seq ?_ | refine c_region ?_ | refine s_nil ?_ | refine s_move (by exact rfl) (by exact rfl) ?_ | refine s_assign (by exact rfl) (by exact rfl) ?_ | refine s_lss (by exact rfl) (by exact rfl) (by exact rfl) ?_ | refine s_add (by exact rfl) (by exact rfl) (by exact rfl) (by omega) ?_ | refine s_rem (by exact rfl) (by exact rfl) (by exact rfl) (by omega) ?_ | refine c_skip ?_ | (refine c_cond_p (by exact rfl) (fun h => ?_) (fun h => ?_) <;> try (exfalso; omega)) | fail
    refine s_q rfl rfl (by exact rfl) (q_byte Tryd.underlying3 Tryd.underlying5 rfl (by exact rfl) (by omega)).q ?_
    refine o_mk [.int .u8 (48 + (m : Int) % 10)] (by exact rfl) (by exact rfl) rfl ?_ ?_ (by simp) fun v hv => ?_
    · simp [Value.cells]
    · simp
    rw [show ([Value.int .u8 (48 + (m : Int) % 10)].flatMap fun u => u.cells.toList) = [48 + (m : Int) % 10].map (Value.int .u8) from rfl]
    refine s_q rfl rfl (by exact rfl) (q_bytes Tryd.underlying63 Tryd.underlying5 Tryd.underlying9 rfl (by exact rfl) (.head _) rfl (by exact Nat.zero_lt_one)).q ?_
    repeat' first
      | refine k_then ?_ | refine c_seq ?_ | refine c_region ?_ | refine s_nil ?_ | refine s_move (by exact rfl) (by exact rfl) ?_ | refine s_assign (by exact rfl) (by exact rfl) ?_ | refine s_lss (by exact rfl) (by exact rfl) (by exact rfl) ?_ | refine s_quo (by exact rfl) (by exact rfl) (by exact rfl) (by omega) ?_ | refine c_skip ?_ | refine c_ret ?_ | refine k_then_ret ?_ | (refine c_cond_p (by exact rfl) (fun h => ?_) (fun h => ?_) <;> try (exfalso; omega)) | fail
    · rename_i h10
      refine ret1 [] rfl rfl rfl ⟨congrArg Value.string ?_, rfl⟩
      rw [itoaB_lo (by omega)]
      congr 3
      omega
    · rename_i h10
      refine s_call (vs := [.int .i64 ((m : Int) / 10)]) (by exact rfl) (by exact rfl) (fun w h => by
        have := Digits_nat (m / 10) w (by omega)
        rwa [show ((m / 10 : Nat) : Int) = (m : Int) / 10 by omega] at this) ?_
      have hsz := itoaB_size (n := (m : Int) / 10) (by omega) (by omega)
      have hsz1 : (strOfNums [48 + (m : Int) % 10]).size = 1 := by rw [strOfNums_size]; rfl
      repeat' first
        | refine k_then ?_ | refine s_nil ?_ | refine s_move (by exact rfl) (by exact rfl) ?_ | refine s_assign (by exact rfl) (by exact rfl) ?_ | refine c_ret ?_ | refine s_q rfl rfl (by exact rfl) (q_sadd rfl (by exact rfl) (by exact rfl) (by omega)).q ?_ | fail
      refine ret1 [] rfl rfl rfl ⟨congrArg Value.string ?_, rfl⟩
      rw [itoaB_hi (n := m) (by omega), show ((m / 10 : Nat) : Int) = (m : Int) / 10 by omega, show ((m % 10 : Nat) : Int) = (m : Int) % 10 by omega]
termination_by m => m
decreasing_by omega
theorem Digits_neg : ∀ (m : Nat) (w : World), 0 < m → (m : Int) ≤ 9223372036854775808 → Calls Tryd.prog 22 #[.int .i64 (-(m : Int))] w (Post w No (Just (.string (itoaB (-(m : Int))))))
  | m, w, h0, hm => by
    have hr : (-(m : Int)).tmod 10 = -((m : Int) % 10) := by rw [Int.neg_tmod, Int.tmod_eq_emod_of_nonneg (by omega)]
    have hq : (-(m : Int)).tdiv 10 = -((m : Int) / 10) := by rw [Int.neg_tdiv, Int.tdiv_eq_ediv_of_nonneg (by omega)]
    refine enter0 (vs := [_]) Tryd.func22 rfl Tryd.ntmps22 rfl ?_
    repeat' first
      | refine k_then ?_ | refine c_seq ?_ | refine c_region ?_ | refine s_nil ?_ | refine s_move (by exact rfl) (by exact rfl) ?_ | refine s_assign (by exact rfl) (by exact rfl) ?_ | refine s_lss (by exact rfl) (by exact rfl) (by exact rfl) ?_ | (refine c_cond_p (by exact rfl) (fun h => ?_) (fun h => ?_) <;> try (exfalso; omega)) | fail
    refine s_q rfl rfl (by exact rfl) (q_remt rfl (by exact rfl) (by exact rfl) (by decide)).q ?_
    rw [hr]
    repeat' first
      | refine s_sub (by exact rfl) (by exact rfl) (by exact rfl) (by omega) ?_ | fail
    refine s_q rfl rfl (by exact rfl) (q_byte Tryd.underlying3 Tryd.underlying5 rfl (by exact rfl) (by omega)).q ?_
    refine o_mk [.int .u8 (48 - -((m : Int) % 10))] (by exact rfl) (by exact rfl) rfl ?_ ?_ (by simp) fun v hv => ?_
    · simp [Value.cells]
    · simp
    rw [show ([Value.int .u8 (48 - -((m : Int) % 10))].flatMap fun u => u.cells.toList) = [48 - -((m : Int) % 10)].map (Value.int .u8) from rfl]
    refine s_q rfl rfl (by exact rfl) (q_bytes Tryd.underlying63 Tryd.underlying5 Tryd.underlying9 rfl (by exact rfl) (.head _) rfl (by exact Nat.zero_lt_one)).q ?_
    have hsz1 : (strOfNums [48 - -((m : Int) % 10)]).size = 1 := by rw [strOfNums_size]; rfl
    repeat' first
      | refine k_then ?_ | refine c_seq ?_ | refine c_region ?_ | refine s_nil ?_ | refine s_move (by exact rfl) (by exact rfl) ?_ | refine s_assign (by exact rfl) (by exact rfl) ?_ | refine s_gtr (by exact rfl) (by exact rfl) (by exact rfl) ?_ | refine c_skip ?_ | (refine c_cond_p (by exact rfl) (fun h => ?_) (fun h => ?_) <;> try (exfalso; omega)) | fail
    · rename_i h10
      have h45 : (⟨#[45]⟩ : ByteArray).size = 1 := rfl
      repeat' first
        | refine k_then ?_ | refine s_nil ?_ | refine s_assign (by exact rfl) (by exact rfl) ?_ | refine c_ret ?_ | refine k_then_ret ?_ | refine s_q rfl rfl (by exact rfl) (q_sadd rfl (by exact rfl) (by exact rfl) (by omega)).q ?_ | fail
      refine ret1 [] rfl rfl rfl ⟨congrArg Value.string ?_, rfl⟩
      rw [itoaB_nlo (n := m) (by omega) h0, show (48 : Int) - -((m : Int) % 10) = 48 + (m : Int) by omega]
    · rename_i h10
      refine s_q rfl rfl (by exact rfl) (q_quot rfl (by exact rfl) (by exact rfl) (by decide) (by omega)).q ?_
      rw [hq]
      skip
      refine s_call (vs := [.int .i64 (-((m : Int) / 10))]) (by exact rfl) (by exact rfl) (fun w h => by
        have := Digits_neg (m / 10) w (by omega) (by omega)
        rwa [show ((m / 10 : Nat) : Int) = (m : Int) / 10 by omega] at this) ?_
      have hsz := itoaB_size (n := -((m : Int) / 10)) (by omega) (by omega)
      repeat' first
        | refine k_then ?_ | refine s_nil ?_ | refine s_move (by exact rfl) (by exact rfl) ?_ | refine s_assign (by exact rfl) (by exact rfl) ?_ | refine c_ret ?_ | refine k_then_ret ?_ | refine s_q rfl rfl (by exact rfl) (q_sadd rfl (by exact rfl) (by exact rfl) (by omega)).q ?_ | fail
      refine ret1 [] rfl rfl rfl ⟨congrArg Value.string ?_, rfl⟩
      rw [itoaB_nhi (n := m) (by omega), show ((m / 10 : Nat) : Int) = (m : Int) / 10 by omega, show ((m % 10 : Nat) : Int) = (m : Int) % 10 by omega, show (48 : Int) - -((m : Int) % 10) = 48 + (m : Int) % 10 by omega]
termination_by m => m
decreasing_by omega
theorem Digits_ok (n : Int) (w : World) (h0 : -9223372036854775808 ≤ n) (h1 : n ≤ 9223372036854775807) : Calls Tryd.prog 22 #[.int .i64 n] w (Post w No (Just (.string (itoaB n)))) := by
  by_cases h : 0 ≤ n
  · have := Digits_nat n.toNat w (by omega)
    rwa [Int.toNat_of_nonneg h] at this
  · have := Digits_neg (-n).toNat w (by omega) (by omega)
    rwa [Int.toNat_of_nonneg (by omega), Int.neg_neg] at this
end Go.Proofs.YtllkoinbfegonaaDoor
end
section
set_option linter.unusedVariables false
namespace Go.Sl
open Go Go.RowKit
section
variable {P : Program} {w0 : World} {S0 : FS} {n : Nat} {F : List (Nat × Value)} {L Lk : List HP} {ops : Array Oper} {Q : Exit → Act → World → Prop} {plan : List PI}
theorem RP.weaken {G : List (Nat × Value)} {M : List HP} (is : List Nat) (hL : pick L is = some M) (hF : covers F G) (h : RP P w0 S0 n ops Q Lk plan G M) : RP P w0 S0 n ops Q Lk plan F L := Reach.weaken is hL hF h
/-- orders that come to one state -/
theorem p_join {X : Type} (rest : List PI) (FX : X → List (Nat × Value)) (LX : X → List HP) (h : (∀ x, RP P w0 S0 n ops Q Lk rest (FX x) (LX x)) → RP P w0 S0 n ops Q Lk plan F L) (hk : ∀ x, RP P w0 S0 n ops Q Lk rest (FX x) (LX x)) : RP P w0 S0 n ops Q Lk plan F L := h hk
/-- ways that come to one state -/
theorem c_join {X : Type} {c : Code} {K : Act → World → Prop} (FX : X → List (Nat × Value)) (LX : X → List HP) (h : ∀ K : Act → World → Prop, (∀ x, Reach w0 S0 n (FX x) (LX x) K) → Reach w0 S0 n F L (c.wp P (Exit.then K Q))) (hk : ∀ x, Reach w0 S0 n (FX x) (LX x) K) : Reach w0 S0 n F L (c.wp P (Exit.then K Q)) := h K hk
theorem j_end {X : Type} {K : Act → World → Prop} {FX : X → List (Nat × Value)} {LX : X → List HP} (hk : ∀ x, Reach w0 S0 n (FX x) (LX x) K) (x : X) (is : List Nat) (hL : pick L is = some (LX x)) (hF : covers F (FX x)) : Reach w0 S0 n F L K := Reach.weaken is hL hF (hk x)
theorem pj_end {X : Type} {FX : X → List (Nat × Value)} {LX : X → List HP} (hk : ∀ x, RP P w0 S0 n ops Q Lk plan (FX x) (LX x)) (x : X) (is : List Nat) (hL : pick L is = some (LX x)) (hF : covers F (FX x)) : RP P w0 S0 n ops Q Lk plan F L := Reach.weaken is hL hF (hk x)
end
end Go.Sl
end
section
set_option linter.unusedVariables false
namespace Go.Proofs.YtllkoinbfegonaaDoor
open Go Go.RowKit Go.Sl
set_option maxRecDepth 100000
set_option maxHeartbeats 8000000
set_option linter.unusedVariables false
set_option linter.unusedSimpArgs false
attribute [local irreducible] Code.wp wpList bodyPost wpQuiet Exit.then Exit.inBlock Post wpAnyH wpOp
theorem number_nat : ∀ (m : Nat) (w : World), m ≤ 999 → Calls Tryd.prog 54 #[.int .i64 (m : Int)] w (Post w No (Just (.string (itoaB (m : Int)))))
  | m, w, hm => by
    refine enter0 (vs := [_]) Tryd.func54 rfl Tryd.ntmps54 rfl ?_
    repeat' first
      | refine k_then ?_ | refine c_seq ?_ | refine c_region ?_ | refine s_nil ?_ | refine s_move (by exact rfl) (by exact rfl) ?_ | refine s_assign (by exact rfl) (by exact rfl) ?_ | refine s_lss (by exact rfl) (by exact rfl) (by exact rfl) ?_ | refine s_add (by exact rfl) (by exact rfl) (by exact rfl) (by omega) ?_ | refine s_pick_f (by exact rfl) (by exact rfl) (by exact rfl) ?_ | refine c_skip ?_ | (refine c_cond_p (by exact rfl) (fun h => ?_) (fun h => ?_) <;> try (exfalso; omega)) | (refine g_case (by exact rfl) (by exact rfl) (fun h => ?_) (fun h => ?_) <;> try (exfalso; omega)) | refine w_move (by exact rfl) (by exact rfl) (by exact rfl) (by exact rfl) ?_ | refine w_gtr (by exact rfl) (by exact rfl) (by exact rfl) (by exact rfl) (by exact rfl) ?_ | fail
    · rename_i h10
      refine s_q rfl rfl (by exact rfl) (q_byte Tryd.underlying3 Tryd.underlying5 rfl (by exact rfl) (by omega)).q ?_
      refine o_mk [.int .u8 (48 + (m : Int))] (by exact rfl) (by exact rfl) rfl ?_ ?_ (by simp) fun v hv => ?_
      · simp [Value.cells]
      · simp
      rw [show ([Value.int .u8 (48 + (m : Int))].flatMap fun u => u.cells.toList) = [48 + (m : Int)].map (Value.int .u8) from rfl]
      refine s_q rfl rfl (by exact rfl) (q_bytes Tryd.underlying63 Tryd.underlying5 Tryd.underlying9 rfl (by exact rfl) (.head _) rfl (by exact Nat.zero_lt_one)).q ?_
      repeat' first
        | refine k_then ?_ | refine s_nil ?_ | refine s_assign (by exact rfl) (by exact rfl) ?_ | refine c_ret ?_ | refine k_then_ret ?_ | fail
      refine ret1 [] rfl rfl rfl ⟨congrArg Value.string ?_, rfl⟩
      rw [itoaB_lo (by omega)]
    · rename_i h10
      refine p_begin0 [(0, true), (1, true), (3, true), (4, true), (5, true), (6, true), .tree (.two 2 (.one 7 (.one 8 .leaf)) 7 (.two 2 (.one 8 .leaf) 8 (.one 2 .leaf))), (9, true), (10, true)] (by kernel_rfl) ?_
      have hrec : ∀ w, Calls Tryd.prog 54 #[.int .i64 ((m : Int) / 10)] w (Post w No (Just (.string (itoaB ((m : Int) / 10))))) := fun w => by
        have := number_nat (m / 10) w (by omega)
        rwa [show ((m / 10 : Nat) : Int) = (m : Int) / 10 by omega] at this
      have hsz := itoaB_size (n := (m : Int) / 10) (by omega) (by omega)
      have hsz1 : (strOfNums [48 + (m : Int) % 10]).size = 1 := by rw [strOfNums_size]; rfl
      repeat' first
        | (refine p_at (by exact rfl) ?_
           first
            | refine t_move (by exact rfl) (by exact rfl) (by exact fun _ h => h) ?_ | refine t_add (by exact rfl) (by exact rfl) (by exact rfl) (by omega) (by exact fun _ h => h) ?_ | refine t_rem (by exact rfl) (by exact rfl) (by exact rfl) (by omega) (by exact fun _ h => h) ?_ | refine t_quo (by exact rfl) (by exact rfl) (by exact rfl) (by omega) (by exact fun _ h => h) ?_ | fail)
        | fail
      refine p_at (by exact rfl) ?_
      refine (fun ho => p_q ho rfl rfl (by exact rfl) (fun _ h => h.pick [] (by exact rfl)) (q_byte Tryd.underlying3 Tryd.underlying5 rfl (by exact rfl) (by omega)) ?_)
      refine p_join (X := Unit) [(9, true), (10, true)] (fun _ => [(18, .string (itoaB ((m : Int) / 10))), (24, .string (strOfNums [48 + (m : Int) % 10]))]) (fun _ => []) (fun hk => ?_) fun _ => ?_
      · refine p_two ?_ ?_
        · refine p_call (gd := none) (vs := [.int .i64 ((m : Int) / 10)]) (by exact rfl) rfl (by exact rfl) (fun w h => hrec w) (fun _ h => h.pick [] (by exact rfl)) ?_
          refine p_one ?_
          refine p_mk (sz := 1) [.int .u8 (48 + (m : Int) % 10)] (by exact rfl) rfl (by exact rfl) rfl (by simp [Value.cells]) (by simp) (by simp) (fun _ _ h => h.pick [] (by exact rfl)) (fun v hv => ?_)
          show RP _ _ _ _ _ _ _ _ _ [rowHP v 5 1 1 ([48 + (m : Int) % 10].map (Value.int .u8))]
          refine p_one ?_
          refine p_r (by exact rfl) rfl rfl (by exact rfl) (fun _ h => h.pick [] (by exact rfl)) (q_bytes Tryd.underlying63 Tryd.underlying5 Tryd.underlying9 rfl (by exact rfl) (.head _) rfl (by exact Nat.zero_lt_one)) ?_
          refine p_leaf ?_
          exact pj_end hk () [] (by exact rfl) ⟨rfl, rfl, trivial⟩
        · refine p_mk (sz := 1) [.int .u8 (48 + (m : Int) % 10)] (by exact rfl) rfl (by exact rfl) rfl (by simp [Value.cells]) (by simp) (by simp) (fun _ _ h => h.pick [] (by exact rfl)) (fun v hv => ?_)
          show RP _ _ _ _ _ _ _ _ _ [rowHP v 5 1 1 ([48 + (m : Int) % 10].map (Value.int .u8))]
          refine p_two ?_ ?_
          · refine p_call (gd := none) (vs := [.int .i64 ((m : Int) / 10)]) (by exact rfl) rfl (by exact rfl) (fun w h => hrec w) (fun _ h => h.pick [] (by exact rfl)) ?_
            refine p_one ?_
            refine p_r (by exact rfl) rfl rfl (by exact rfl) (fun _ h => h.pick [] (by exact rfl)) (q_bytes Tryd.underlying63 Tryd.underlying5 Tryd.underlying9 rfl (by exact rfl) (.head _) rfl (by exact Nat.zero_lt_one)) ?_
            refine p_leaf ?_
            exact pj_end hk () [] (by exact rfl) ⟨rfl, rfl, trivial⟩
          · refine p_r (by exact rfl) rfl rfl (by exact rfl) (fun _ h => h.pick [] (by exact rfl)) (q_bytes Tryd.underlying63 Tryd.underlying5 Tryd.underlying9 rfl (by exact rfl) (.head _) rfl (by exact Nat.zero_lt_one)) ?_
            refine p_one ?_
            refine p_call (gd := none) (vs := [.int .i64 ((m : Int) / 10)]) (by exact rfl) rfl (by exact rfl) (fun w h => hrec w) (fun _ h => h.pick [] (by exact rfl)) ?_
            refine p_leaf ?_
            exact pj_end hk () [] (by exact rfl) ⟨rfl, rfl, trivial⟩
      refine p_at (by exact rfl) ?_
      refine (fun ho => p_q ho rfl rfl (by exact rfl) (fun _ h => h.pick [] (by exact rfl)) (q_sadd rfl (by exact rfl) (by exact rfl) (by omega)) ?_)
      repeat' first
        | refine p_nil ?_
        | (refine p_at (by exact rfl) ?_
           first
            | refine t_assign (by exact rfl) (by exact rfl) (by exact fun _ h => h) ?_ | fail)
        | fail
      repeat' first
        | refine k_then ?_ | refine c_ret ?_ | fail
      refine ret1 [] rfl rfl rfl ⟨congrArg Value.string ?_, rfl⟩
      rw [itoaB_hi (n := m) (by omega), show ((m / 10 : Nat) : Int) = (m : Int) / 10 by omega, show ((m % 10 : Nat) : Int) = (m : Int) % 10 by omega]
termination_by m => m
decreasing_by omega
def kindB (k : Int) : ByteArray := "filigree error ".toUTF8 ++ (if 0 ≤ k ∧ k ≤ 999 then itoaB k else ⟨#[63]⟩)
theorem number_ok (k : Int) (w : World) : Calls Tryd.prog 54 #[.int .i64 k] w (Post w No (Just (.string (if 0 ≤ k ∧ k ≤ 999 then itoaB k else ⟨#[63]⟩)))) := by
  by_cases h : 0 ≤ k ∧ k ≤ 999
  · have := number_nat k.toNat w (by omega)
    rw [if_pos h]
    rwa [Int.toNat_of_nonneg h.1] at this
  · rw [if_neg h]
    refine enter0 (vs := [_]) Tryd.func54 rfl Tryd.ntmps54 rfl ?_
    repeat' first
      | refine k_then ?_ | refine c_seq ?_ | refine c_region ?_ | refine s_nil ?_ | refine s_move (by exact rfl) (by exact rfl) ?_ | refine s_assign (by exact rfl) (by exact rfl) ?_ | refine s_lss (by exact rfl) (by exact rfl) (by exact rfl) ?_ | refine s_pick_t (by exact rfl) (by exact rfl) (by exact rfl) ?_ | refine s_pick_f (by exact rfl) (by exact rfl) (by exact rfl) ?_ | refine c_ret ?_ | refine k_then_ret ?_ | (refine c_cond_p (by exact rfl) (fun h => ?_) (fun h => ?_) <;> try (exfalso; omega)) | refine c_cond_t (by exact rfl) ?_ | (refine g_case (by exact rfl) (by exact rfl) (fun h => ?_) (fun h => ?_) <;> try (exfalso; omega)) | refine g_skip (by exact rfl) (by exact rfl) (by exact rfl) (by exact rfl) ?_ | refine w_move (by exact rfl) (by exact rfl) (by exact rfl) (by exact rfl) ?_ | refine w_gtr (by exact rfl) (by exact rfl) (by exact rfl) (by exact rfl) (by exact rfl) ?_ | fail
    all_goals first
      | (exfalso; omega)
      | exact ret1 [] rfl rfl rfl ⟨rfl, rfl⟩
theorem KError_ok (k : Int) (w : World) : Calls Tryd.prog 35 #[.int .i64 k] w (Post w No (Just (.string (kindB k)))) := by
  have hs1 : ((if 0 ≤ k ∧ k ≤ 999 then itoaB k else ⟨#[63]⟩ : ByteArray)).size ≤ 64 := by
    split
    · exact itoaB_size (by omega) (by omega)
    · decide
  refine enter0 (vs := [_]) Tryd.func35 rfl Tryd.ntmps35 rfl ?_
  repeat' first
    | refine k_then ?_ | refine c_seq ?_ | refine c_region ?_ | refine s_nil ?_ | refine s_move (by exact rfl) (by exact rfl) ?_ | refine s_assign (by exact rfl) (by exact rfl) ?_ | fail
  refine s_call (by exact rfl) (by exact rfl) (fun w h => number_ok k w) ?_
  refine s_q rfl rfl (by exact rfl) (q_sadd rfl (by exact rfl) (by exact rfl) (by show 15 + _ ≤ _; omega)).q ?_
  repeat' first
    | refine k_then ?_ | refine s_nil ?_ | refine s_assign (by exact rfl) (by exact rfl) ?_ | refine c_ret ?_ | fail
  exact ret1 [] rfl rfl rfl ⟨by rfl, rfl⟩
end Go.Proofs.YtllkoinbfegonaaDoor
end
section
set_option linter.unusedVariables false
namespace Go.Proofs.YtllkoinbfegonaaDoor
open Go Go.RowKit Go.Sl
/-- one place's text, ahead of what it wraps -/
def plB (s : ByteArray) (i : Int) : ByteArray := s ++ ⟨#[32]⟩ ++ itoaB i ++ ⟨#[58, 32]⟩
def chB (k : Int) : List Stp → ByteArray
  | [] => kindB k
  | x :: r => plB x.1 x.2 ++ chB k r
def I64 (i : Int) : Prop := -9223372036854775808 ≤ i ∧ i ≤ 9223372036854775807
set_option maxRecDepth 100000
set_option maxHeartbeats 8000000
set_option linter.unusedVariables false
set_option linter.unusedSimpArgs false
attribute [local irreducible] Code.wp wpList bodyPost wpQuiet Exit.then Exit.inBlock Post wpAnyH wpOp
theorem FError_ok (k : Int) : ∀ (r : List Nd) (x : Nd) (w : World), RT w No → ChR w No (.iface 23 (.int .i64 k)) (x :: r) → (∀ y ∈ x :: r, I64 y.i) → (chB k (ndOf (x :: r))).size ≤ 4611686018427387904 →
    Calls Tryd.prog 12 #[.pointer (some ⟨x.b, 0, none⟩)] w (Post w No (Just (.string (chB k (ndOf (x :: r))))))
  | r, x, w, ht, hr, hi, hz => by
    have h1 := hi x (.head _)
    have hit := itoaB_size h1.1 h1.2
    have e1 : (⟨#[32]⟩ : ByteArray).size = 1 := rfl
    have e2 : (⟨#[58, 32]⟩ : ByteArray).size = 2 := rfl
    have hz1 : (plB x.s x.i).size + (chB k (ndOf r)).size ≤ 4611686018427387904 := by
      have : (chB k (ndOf (x :: r))).size = (plB x.s x.i).size + (chB k (ndOf r)).size := by show (plB x.s x.i ++ chB k (ndOf r) : ByteArray).size = _; rw [ByteArray.size_append]
      omega
    have hp : (plB x.s x.i).size = x.s.size + 1 + (itoaB x.i).size + 2 := by simp only [plB, ByteArray.size_append, e1, e2]
    refine enter0 (vs := [_]) Tryd.func12 rfl Tryd.ntmps12 rfl ?_
    have hb := hr.1
    repeat' first
      | refine k_then ?_ | refine c_seq ?_ | refine c_region ?_ | refine s_nil ?_ | refine s_move (by exact rfl) (by exact rfl) ?_ | refine s_assign (by exact rfl) (by exact rfl) ?_ | refine c_skip ?_ | refine c_cond_f (by exact rfl) ?_ | refine s_q rfl rfl (by exact rfl) (q_pnil_f rfl (by exact rfl)).q ?_ | fail
    have q1 : (x.s ++ (⟨#[32]⟩ : ByteArray)).size = x.s.size + 1 := by rw [ByteArray.size_append, e1]
    have q2 : (x.s ++ (⟨#[32]⟩ : ByteArray) ++ itoaB x.i).size = x.s.size + 1 + (itoaB x.i).size := by rw [ByteArray.size_append, q1]
    refine c_draw (by kernel_rfl) (by kernel_rfl) ?_
    repeat' first
      | refine d_move (by exact rfl) (by exact rfl) ?_ | refine d_fa (by exact rfl) (by exact rfl) ?_ | refine d_ld_rb (by exact rfl) (by exact rfl) (by assumption) (by exact rfl) ?_ | refine d_q rfl rfl (by exact rfl) (q_nilck rfl (by exact rfl)).q ?_ | refine d_q rfl rfl (by exact rfl) (q_sadd rfl (by exact rfl) (by exact rfl) (by omega)).q ?_ | fail
    refine d_call (by exact rfl) (by exact rfl) (fun w h => Itoa_ok x.i w h1.1 h1.2 (ht.old h)) ?_
    repeat' first
      | refine d_nil ?_ | refine d_assign (by exact rfl) (by exact rfl) ?_ | refine d_q rfl rfl (by exact rfl) (q_sadd rfl (by exact rfl) (by exact rfl) (by omega)).q ?_ | fail
    cases r with
    | nil =>
      repeat' first
        | refine k_then ?_ | refine c_seq ?_ | refine c_region ?_ | refine s_nil ?_ | refine s_move (by exact rfl) (by exact rfl) ?_ | refine s_fa (by exact rfl) (by exact rfl) ?_ | refine s_ld_rb (by exact rfl) (by exact rfl) (by assumption) (by exact rfl) ?_ | refine c_block ?_ | refine c_cond_f (by exact rfl) ?_ | refine s_q rfl rfl (by exact rfl) (q_nil_f rfl (by exact rfl)).q ?_ | refine s_q rfl rfl (by exact rfl) (q_nilck rfl (by exact rfl)).q ?_ | fail
      refine s_q rfl rfl (by exact rfl) (q_assert (asKK _) rfl (by exact rfl)).q ?_
      repeat' first
        | refine k_then ?_ | refine c_seq ?_ | refine c_region ?_ | refine s_nil ?_ | refine s_move (by exact rfl) (by exact rfl) ?_ | refine s_assign (by exact rfl) (by exact rfl) ?_ | refine s_extract (by exact rfl) (by exact rfl) (by exact rfl) ?_ | refine c_cond_t (by exact rfl) ?_ | fail
      refine s_call (by exact rfl) (by exact rfl) (fun w h => KError_ok k w) ?_
      refine s_q rfl rfl (by exact rfl) (q_sadd rfl (by exact rfl) (by exact rfl) (by
        show (plB x.s x.i).size + (kindB k).size ≤ _
        have : (chB k (ndOf [])).size = (kindB k).size := rfl
        omega)).q ?_
      repeat' first
        | refine k_then ?_ | refine s_nil ?_ | refine s_assign (by exact rfl) (by exact rfl) ?_ | refine c_ret ?_ | refine k_blk_ret ?_ | fail
      exact ret1 [] rfl rfl rfl ⟨rfl, rfl⟩
    | cons y r =>
      repeat' first
        | refine k_then ?_ | refine c_seq ?_ | refine c_region ?_ | refine s_nil ?_ | refine s_move (by exact rfl) (by exact rfl) ?_ | refine s_fa (by exact rfl) (by exact rfl) ?_ | refine s_ld_rb (by exact rfl) (by exact rfl) (by assumption) (by exact rfl) ?_ | refine c_block ?_ | refine c_cond_f (by exact rfl) ?_ | refine s_q rfl rfl (by exact rfl) (q_nil_f rfl (by exact rfl)).q ?_ | refine s_q rfl rfl (by exact rfl) (q_nilck rfl (by exact rfl)).q ?_ | fail
      refine s_q rfl rfl (by exact rfl) (q_assert (asFK _) rfl (by exact rfl)).q ?_
      repeat' first
        | refine k_then ?_ | refine c_seq ?_ | refine c_region ?_ | refine s_nil ?_ | refine s_extract (by exact rfl) (by exact rfl) (by exact rfl) ?_ | refine c_cond_f (by exact rfl) ?_ | fail
      refine s_q rfl rfl (by exact rfl) (q_assert (asFF _) rfl (by exact rfl)).q ?_
      repeat' first
        | refine k_then ?_ | refine c_seq ?_ | refine c_region ?_ | refine s_nil ?_ | refine s_move (by exact rfl) (by exact rfl) ?_ | refine s_assign (by exact rfl) (by exact rfl) ?_ | refine s_extract (by exact rfl) (by exact rfl) (by exact rfl) ?_ | refine c_cond_t (by exact rfl) ?_ | fail
      refine s_call (by exact rfl) (by exact rfl) (fun w h => FError_ok k r y w (ht.old h) (hr.2.old h) (fun z hzz => hi z (.tail _ hzz)) (by omega)) ?_
      refine s_q rfl rfl (by exact rfl) (q_sadd rfl (by exact rfl) (by exact rfl) (by
        show (plB x.s x.i).size + _ ≤ _
        omega)).q ?_
      repeat' first
        | refine k_then ?_ | refine s_nil ?_ | refine s_assign (by exact rfl) (by exact rfl) ?_ | refine c_ret ?_ | refine k_blk_ret ?_ | fail
      exact ret1 [] rfl rfl rfl ⟨rfl, rfl⟩
termination_by r => r.length
end Go.Proofs.YtllkoinbfegonaaDoor
end
section
set_option linter.unusedVariables false
namespace Go.Proofs.YtllkoinbfegonaaDoor
open Go Go.RowKit Go.Sl
theorem kindB_size (k : Int) : (kindB k).size ≤ 79 := by
  rw [kindB, ByteArray.size_append]
  have h : ("filigree error ".toUTF8).size = 15 := rfl
  rw [h]
  split
  · have := itoaB_size (n := k) (by omega) (by omega); omega
  · show 15 + 1 ≤ 79; decide
theorem plB_size {s : ByteArray} {i : Int} (h : I64 i) : (plB s i).size ≤ s.size + 67 := by
  have h1 := itoaB_size h.1 h.2
  have e1 : (⟨#[32]⟩ : ByteArray).size = 1 := rfl
  have e2 : (⟨#[58, 32]⟩ : ByteArray).size = 2 := rfl
  simp only [plB, ByteArray.size_append, e1, e2]; omega
theorem chB_size (k : Int) : ∀ {l : List Stp}, (∀ x ∈ l, I64 x.2) → (chB k l).size ≤ sizes l + 67 * l.length + 79
  | [], _ => by have := kindB_size k; simpa [chB, sizes] using this
  | x :: l, h => by
    have h1 := plB_size (s := x.1) (h x (.head _))
    have h2 := chB_size k (l := l) fun y hy => h y (.tail _ hy)
    show (plB x.1 x.2 ++ chB k l).size ≤ _
    rw [ByteArray.size_append]
    simp only [sizes, List.map_cons, List.sum_cons, List.length_cons] at h2 ⊢
    omega
theorem sizes_rev (l : List Stp) : sizes l.reverse = sizes l := by
  simp [sizes, List.map_reverse, List.sum_reverse]
theorem sizes_take_le (l : List Stp) (j : Nat) : sizes (l.take j) ≤ sizes l := by
  have := congrArg sizes (List.take_append_drop j l)
  simp only [sizes, List.map_append, List.sum_append] at this ⊢
  omega
set_option maxRecDepth 100000
set_option maxHeartbeats 8000000
set_option linter.unusedVariables false
set_option linter.unusedSimpArgs false
attribute [local irreducible] Code.wp wpList bodyPost wpQuiet Exit.then Exit.inBlock Post wpAnyH wpOp
theorem refText_ok (v : Value) (l : List Stp) (k : Int) (w : World) (hs : Shp v l.length) (hr : RO w No v (stV l)) (hk : I64 k) (hi : ∀ x ∈ l, I64 x.2) (hl : l.length ≤ 50 ∧ sizes l ≤ 5000) :
    Calls Tryd.prog 13 #[v, .int .i64 k] w (Post w No (Just (.string (chB k l.reverse)))) := by
  have hm := hs.1
  simp only [maxLen] at hm
  have hf : (⟨#[102, 105, 108, 105, 103, 114, 101, 101, 32, 101, 114, 114, 111, 114, 32]⟩ : ByteArray).size = 15 := rfl
  have hks := itoaB_size hk.1 hk.2
  refine enter0 (vs := [_, _]) Tryd.func13 rfl Tryd.ntmps13 rfl ?_
  generalize hreg : Code.seq (Code.region 2 _ _) _ = cc
  repeat' first
    | refine k_then ?_ | refine c_seq ?_ | refine c_region ?_ | refine s_nil ?_ | refine s_assign (by exact rfl) (by exact rfl) ?_ | fail
  refine c_join (X := Unit) (fun _ => [(0, v), (5, .string (kindB k))]) (fun _ => []) (fun K hjn => ?_) fun _ => ?_
  · subst hreg
    repeat' first
      | refine k_then ?_ | refine c_seq ?_ | refine c_region ?_ | refine s_nil ?_ | refine s_move (by exact rfl) (by exact rfl) ?_ | refine s_geq (by exact rfl) (by exact rfl) (by exact rfl) ?_ | refine s_pick_t (by exact rfl) (by exact rfl) (by exact rfl) ?_ | refine s_pick_f (by exact rfl) (by exact rfl) (by exact rfl) ?_ | refine c_skip ?_ | (refine c_cond_p (by exact rfl) (fun h => ?_) (fun h => ?_) <;> try (exfalso; omega)) | refine c_cond_f (by exact rfl) ?_ | (refine g_case (by exact rfl) (by exact rfl) (fun h => ?_) (fun h => ?_) <;> try (exfalso; omega)) | refine g_skip (by exact rfl) (by exact rfl) (by exact rfl) (by exact rfl) ?_ | refine w_move (by exact rfl) (by exact rfl) (by exact rfl) (by exact rfl) ?_ | refine w_leq (by exact rfl) (by exact rfl) (by exact rfl) (by exact rfl) (by exact rfl) ?_ | fail
    · refine s_call (by exact rfl) (by exact rfl) (fun w h => Digits_ok k w hk.1 hk.2) ?_
      repeat' first
        | refine k_then ?_ | refine s_nil ?_ | refine s_assign (by exact rfl) (by exact rfl) ?_ | refine s_q rfl rfl (by exact rfl) (q_sadd rfl (by exact rfl) (by exact rfl) (by omega)).q ?_ | fail
      exact j_end hjn () [] rfl ⟨rfl, by rw [kindB, if_pos ⟨by omega, by omega⟩]; exact rfl, trivial⟩
    · exact j_end hjn () [] rfl ⟨rfl, by rw [kindB, if_neg (by omega)]; exact rfl, trivial⟩
    · exact j_end hjn () [] rfl ⟨rfl, by rw [kindB, if_neg (by omega)]; exact rfl, trivial⟩
  clear hreg cc
  repeat' first
    | refine k_then ?_ | refine c_seq ?_ | refine c_region ?_ | refine s_nil ?_ | refine s_assign (by exact rfl) (by exact rfl) ?_ | refine c_block ?_ | fail
  refine c_loop (fun j : Nat => j ≤ l.length) (fun j => [(0, v), (5, .string (chB k (l.take j).reverse)), (6, .int .i64 (j : Int))]) (fun _ => []) (fun j => l.length - j) 0 [] (Nat.zero_le _) rfl ⟨rfl, rfl, rfl, trivial⟩ ?_
  intro j hj
  repeat' first
    | refine k_then ?_ | refine c_seq ?_ | refine c_region ?_ | refine s_nil ?_ | refine s_move (by exact rfl) (by exact rfl) ?_ | refine s_assign (by exact rfl) (by exact rfl) ?_ | refine s_lss (by exact rfl) (by exact rfl) (by exact rfl) ?_ | refine s_len (by exact rfl) (by exact rfl) (by assumption) ?_ | refine c_block ?_ | refine c_skip ?_ | refine c_exit ?_ | refine c_ret ?_ | refine k_then_exit ?_ | refine k_blk_eq ?_ | (refine c_cond_p (by exact rfl) (fun h => ?_) (fun h => ?_) <;> try (exfalso; omega)) | fail
  · obtain ⟨x, hx⟩ : ∃ x, l[j]? = some x := ⟨_, List.getElem?_eq_getElem (by omega)⟩
    have g0 := stV_0 hx
    have g1 := stV_1 hx
    have hxm := List.mem_of_getElem? hx
    have hxi := hi x hxm
    have hit := itoaB_size hxi.1 hxi.2
    have e1 : (⟨#[32]⟩ : ByteArray).size = 1 := rfl
    have e2 : (⟨#[58, 32]⟩ : ByteArray).size = 2 := rfl
    have hs1 := sizes_take_le l (j + 1)
    rw [sizes_take hx] at hs1
    have hs2 := chB_size k (l := (l.take j).reverse) fun y hy => hi y (List.mem_of_mem_take (List.mem_reverse.1 hy))
    rw [sizes_rev, List.length_reverse, List.length_take] at hs2
    have q1 : (x.1 ++ (⟨#[32]⟩ : ByteArray)).size = x.1.size + 1 := by rw [ByteArray.size_append, e1]
    have q2 : (x.1 ++ (⟨#[32]⟩ : ByteArray) ++ itoaB x.2).size = x.1.size + 1 + (itoaB x.2).size := by rw [ByteArray.size_append, q1]
    have q3 : (x.1 ++ (⟨#[32]⟩ : ByteArray) ++ itoaB x.2 ++ (⟨#[58, 32]⟩ : ByteArray)).size = x.1.size + 1 + (itoaB x.2).size + 2 := by rw [ByteArray.size_append, q2, e2]
    have hmin : min j l.length ≤ 50 := by omega
    refine c_draw (by kernel_rfl) (by kernel_rfl) ?_
    repeat' first
      | refine d_move (by exact rfl) (by exact rfl) ?_ | refine d_idx (by exact rfl) (by exact rfl) (by exact rfl) (by assumption) (by first | assumption | omega) ?_ | refine d_fap (by exact rfl) (by exact rfl) (by assumption) (by omega) ?_ | refine d_ld_ro (by exact rfl) (by exact rfl) (by assumption) (by assumption) ?_ | refine d_q rfl rfl (by exact rfl) (q_sadd rfl (by exact rfl) (by exact rfl) (by omega)).q ?_ | fail
    refine d_call (by exact rfl) (by exact rfl) (fun w h => Digits_ok x.2 w hxi.1 hxi.2) ?_
    repeat' first
      | refine d_nil ?_ | refine d_move (by exact rfl) (by exact rfl) ?_ | refine d_assign (by exact rfl) (by exact rfl) ?_ | refine d_q rfl rfl (by exact rfl) (q_sadd rfl (by exact rfl) (by exact rfl) (by omega)).q ?_ | fail
    repeat' first
      | refine k_then ?_ | refine c_region ?_ | refine s_nil ?_ | refine s_move (by exact rfl) (by exact rfl) ?_ | refine s_assign (by exact rfl) (by exact rfl) ?_ | refine s_add (by exact rfl) (by exact rfl) (by exact rfl) (by omega) ?_ | refine k_blk ?_ | fail
    refine c_round (j + 1) [] rfl ⟨rfl, by rw [List.take_add_one, hx, Option.toList_some, List.reverse_append]; exact rfl, rfl, trivial⟩ (by omega) (by omega)
  · refine ret1 [] rfl rfl rfl ⟨by rw [List.take_of_length_le (by omega)], rfl⟩
end Go.Proofs.YtllkoinbfegonaaDoor
end
section
set_option linter.unusedVariables false
namespace Go.Proofs.YtllkoinbfegonaaDoor
open Go Go.RowKit Go.Sl
def lineB : ByteArray := ⟨#[108, 105, 110, 101]⟩
theorem line_text : chB 6 [(lineB, 3)] = ⟨#[108, 105, 110, 101, 32, 51, 58, 32, 102, 105, 108, 105, 103, 114, 101, 101, 32, 101, 114, 114, 111, 114, 32, 54]⟩ := by
  have h3 : itoaB 3 = strOfNums [48 + 3] := itoaB_lo (n := 3) (by decide)
  have h6 : itoaB 6 = strOfNums [48 + 6] := itoaB_lo (n := 6) (by decide)
  rw [chB, chB, plB, kindB, if_pos (by decide), h3, h6]
  rfl
set_option maxRecDepth 100000
set_option maxHeartbeats 8000000
set_option linter.unusedVariables false
set_option linter.unusedSimpArgs false
attribute [local irreducible] Code.wp wpList bodyPost wpQuiet Exit.then Exit.inBlock Post wpAnyH wpOp
theorem alive03_ok (w : World) (ht : RT w No) (hg : RC w No 0 (rT 27)) : Calls Tryd.prog 9 #[] w (Post w No (Just (.bool true))) := by
  refine enter0 (vs := []) Tryd.func9 rfl Tryd.ntmps9 rfl ?_
  repeat' first
    | refine k_then ?_ | refine c_seq ?_ | refine c_region ?_ | refine s_nil ?_ | refine s_assign (by exact rfl) (by exact rfl) ?_ | refine s_q rfl rfl (by exact rfl) (q_iface rfl (by exact rfl)).q ?_ | fail
  refine o_call (vs := [.string lineB, .int .i64 3, .iface 23 (.int .i64 6)]) (by exact rfl) (by exact rfl) (fun w h => WrapK_ok lineB 3 6 w (by decide)) ?_
  rintro v L' ⟨nb, rfl, rfl⟩
  repeat' first
    | refine k_then ?_ | refine c_seq ?_ | refine c_region ?_ | refine s_nil ?_ | refine s_move (by exact rfl) (by exact rfl) ?_ | refine s_assign (by exact rfl) (by exact rfl) ?_ | refine o_alloc (by exact rfl) (fun b => ?_) | refine w_move (by exact rfl) (by exact rfl) (by exact rfl) (by exact rfl) ?_ | refine g_on (by exact rfl) (by exact rfl) ?_ | refine s_q rfl rfl (by exact rfl) (q_iface rfl (by exact rfl)).q ?_ | refine s_q rfl rfl (by exact rfl) (q_nonnil_f rfl (by exact rfl)).q ?_ | fail
  refine s_lend [boxHP b 29 [.pointer none]] _ (by exact rfl) (by exact rfl) (by exact rfl) (fun w S h => AsF_ok (.iface 23 (.int .i64 6)) ⟨nb, lineB, 3⟩ [] b _ w S (hg.lent h) h.own) ?_
  rintro u L' ⟨rfl, rfl⟩
  repeat' first
    | refine s_move (by exact rfl) (by exact rfl) ?_ | refine s_pick_t (by exact rfl) (by exact rfl) (by exact rfl) ?_ | refine w_ld_box (by exact rfl) (by exact rfl) (by exact rfl) (by exact rfl) (by exact .head _) (by exact rfl) ?_ | refine g_on (by exact rfl) (by exact rfl) ?_ | fail
  refine s_q rfl rfl (by exact rfl) (q_pne_f rfl (by exact rfl)).q ?_
  repeat' first
    | refine s_move (by exact rfl) (by exact rfl) ?_ | refine s_pick_t (by exact rfl) (by exact rfl) (by exact rfl) ?_ | refine w_ld_box (by exact rfl) (by exact rfl) (by exact rfl) (by exact rfl) (by exact .head _) (by exact rfl) ?_ | refine g_on (by exact rfl) (by exact rfl) ?_ | fail
  refine s_call (vs := [.pointer (some ⟨nb, 0, none⟩)]) (by exact rfl) (by exact rfl) (fun w h => FError_ok 6 [] ⟨nb, lineB, 3⟩ w (ht.old h) ⟨rb_own h (.tail _ (.head _)), trivial⟩ (fun y hy => by
    obtain rfl := List.mem_singleton.1 hy
    exact ⟨by show (-9223372036854775808 : Int) ≤ 3; decide, by show (3 : Int) ≤ 9223372036854775807; decide⟩) (by rw [show ndOf [(⟨nb, lineB, 3⟩ : Nd)] = [(lineB, 3)] from rfl, line_text]; decide)) ?_
  rw [show ndOf [(⟨nb, lineB, 3⟩ : Nd)] = [(lineB, 3)] from rfl, line_text]
  repeat' first
    | refine s_move (by exact rfl) (by exact rfl) ?_ | refine s_pick_t (by exact rfl) (by exact rfl) (by exact rfl) ?_ | refine g_on (by exact rfl) (by exact rfl) ?_ | refine s_q rfl rfl (by exact rfl) (q_seq rfl (by exact rfl) (by exact rfl)).q ?_ | fail
  rw [beq_self_eq_true]
  repeat' first
    | refine w_move (by exact rfl) (by exact rfl) (by exact rfl) (by exact rfl) ?_ | refine g_on (by exact rfl) (by exact rfl) ?_ | fail
  refine s_call (vs := [chV (.iface 23 (.int .i64 6)) [⟨nb, lineB, 3⟩]]) (by exact rfl) (by exact rfl) (fun w h => FOf_ok 6 [⟨nb, lineB, 3⟩] w (hg.old h) ⟨rb_own h (.tail _ (.head _)), trivial⟩) ?_
  repeat' first
    | refine s_move (by exact rfl) (by exact rfl) ?_ | refine s_pick_t (by exact rfl) (by exact rfl) (by exact rfl) ?_ | (refine g_case (by exact rfl) (by exact rfl) (fun h => ?_) (fun h => ?_) <;> try (exfalso; omega)) | refine w_eql (by exact rfl) (by exact rfl) (by exact rfl) (by exact rfl) (by exact rfl) ?_ | refine g_on (by exact rfl) (by exact rfl) ?_ | fail
  refine s_call (by exact rfl) (by exact rfl) (fun w h => WrapNil_ok _ _ w) ?_
  repeat' first
    | refine s_move (by exact rfl) (by exact rfl) ?_ | refine s_pick_t (by exact rfl) (by exact rfl) (by exact rfl) ?_ | refine g_on (by exact rfl) (by exact rfl) ?_ | refine s_q rfl rfl (by exact rfl) (q_iface rfl (by exact rfl)).q ?_ | refine s_q rfl rfl (by exact rfl) (q_nil_t rfl (by exact rfl)).q ?_ | fail
  refine s_call (by exact rfl) (by exact rfl) (fun w h => WrapOK_ok _ _ w) ?_
  repeat' first
    | refine k_then ?_ | refine s_nil ?_ | refine s_assign (by exact rfl) (by exact rfl) ?_ | refine s_pick_t (by exact rfl) (by exact rfl) (by exact rfl) ?_ | refine c_ret ?_ | refine g_on (by exact rfl) (by exact rfl) ?_ | refine s_q rfl rfl (by exact rfl) (q_nil_t rfl (by exact rfl)).q ?_ | fail
  exact ret1 [] rfl rfl rfl ⟨rfl, rfl⟩
end Go.Proofs.YtllkoinbfegonaaDoor
end
section
set_option linter.unusedVariables false
namespace Go.Sl
open Go Go.RowKit
theorem q_ld_kidb {P : Program} {w0 : World} {S0 : FS} {n : Nat} {F : List (Nat × Value)} {L Ks : List HP} {o : Oper} {v : Value} {x : Operand} {t tb : TypeId} {b off : Nat} {cs : List Value} (hK : boxHP b tb cs ∈ Ks) (hL : starHP Ks ∈ L) (ho : o.op = .load t x) (hx : ev F x = some (.pointer (some ⟨b, off, none⟩))) (hc : cs[off]? = some v) [T : ScTy P t] : R1 P w0 S0 n F L o v :=
  q_of_run fun a hf w hs => by
    obtain ⟨S, hsat⟩ := hs.mem hL
    have h2 : (boxHP b tb cs).sat S w := sats_mem hsat hK
    have hcell : w.cell? ⟨b, off, none⟩ = some v := by
      have := h2.2
      simp [World.cell?, this, hc]
    simp only [execOp, ho, hf.eval hx, run_load1 (P := P) T.agg hcell, Sem.run_bind, Result.andThen_ok, Sem.run_pure]
end Go.Sl
namespace Go.Proofs.YtllkoinbfegonaaDoor
open Go Go.RowKit Go.Sl
set_option maxRecDepth 100000
set_option maxHeartbeats 8000000
set_option linter.unusedVariables false
set_option linter.unusedSimpArgs false
attribute [local irreducible] Code.wp wpList bodyPost wpQuiet Exit.then Exit.inBlock Post wpAnyH wpOp
instance : BoTy Tryd.prog 4 := ⟨Tryd.underlying4⟩
theorem FaultTexts_ok (v : Value) (l : List Stp) (k : Int) (w : World) (ht : RT w No) (hg : RC w No 0 (rT 27)) (hs : Shp v l.length) (hr : RO w No v (stV l)) (hz : ∀ x ∈ l, x.1.size ≤ 140737488351232) (hk : I64 k) (hi : ∀ x ∈ l, I64 x.2) :
    Calls Tryd.prog 3 #[v, .int .i64 k] w (Post w No (Just (.bool true))) := by
  have hm := hs.1
  simp only [maxLen] at hm
  refine enter0 (vs := [_, _]) Tryd.func3 rfl Tryd.ntmps3 rfl ?_
  repeat' first
    | refine k_then ?_ | refine c_seq ?_ | refine c_region ?_ | refine s_nil ?_ | refine s_move (by exact rfl) (by exact rfl) ?_ | refine s_assign (by exact rfl) (by exact rfl) ?_ | fail
  refine s_call (by exact rfl) (by exact rfl) (fun w h => light_ok v l w hs (ro_old h hr) hz) ?_
  by_cases hc : lightK l = true ∧ k ≠ 0 ∧ l ≠ []
  · obtain ⟨hL, hk0, hne⟩ := hc
    have hpos := List.length_pos_iff.2 hne
    rw [hL]
    repeat' first
      | refine k_then ?_ | refine c_seq ?_ | refine c_region ?_ | refine s_nil ?_ | refine s_move (by exact rfl) (by exact rfl) ?_ | refine s_not (by exact rfl) (by exact rfl) ?_ | refine s_pick_f (by exact rfl) (by exact rfl) (by exact rfl) ?_ | refine c_skip ?_ | (refine c_cond_p (by exact rfl) (fun h => ?_) (fun h => ?_) <;> try (exfalso; omega)) | (refine g_case (by exact rfl) (by exact rfl) (fun h => ?_) (fun h => ?_) <;> try (exfalso; omega)) | refine w_move (by exact rfl) (by exact rfl) (by exact rfl) (by exact rfl) ?_ | refine w_eql (by exact rfl) (by exact rfl) (by exact rfl) (by exact rfl) (by exact rfl) ?_ | refine w_len (by exact rfl) (by exact rfl) (by exact rfl) (by exact rfl) (by assumption) ?_ | fail
    all_goals try (exfalso; omega)
    refine o_call (by exact rfl) (by exact rfl) (fun w h => wrapped_ok v l k hk0 w hs (ro_old h hr)) ?_
    rintro u L' ⟨r, rfl, hn, rfl⟩
    repeat' first
      | refine k_then ?_ | refine c_seq ?_ | refine c_region ?_ | refine s_nil ?_ | refine s_move (by exact rfl) (by exact rfl) ?_ | refine s_assign (by exact rfl) (by exact rfl) ?_ | refine o_alloc (by exact rfl) (fun b => ?_) | fail
    cases r with
    | nil => exact absurd (List.reverse_eq_nil_iff.1 hn.symm) hne
    | cons x r =>
      have hlast : l[l.length - 1]? = some (x.s, x.i) := by
        have h0 : l.reverse[0]? = some (x.s, x.i) := by rw [← hn]; rfl
        rwa [List.getElem?_reverse (by omega), Nat.sub_zero] at h0
      have hE : ((stV l).drop (((l.length : Int) - 1).toNat * 2)).take 2 = [.string x.s, .int .i64 x.i] := by
        have e0 := stV_0 hlast
        have e1 := stV_1 hlast
        rw [show ((l.length : Int) - 1).toNat = l.length - 1 by omega]
        apply List.ext_getElem?
        intro i
        rcases i with _ | _ | i
        · simpa using e0
        · simpa using e1
        · rw [List.getElem?_eq_none (by rw [List.length_take]; omega)]; simp
      rw [show chV (.iface 23 (.int .i64 k)) (x :: r) = .iface 29 (.pointer (some ⟨x.b, 0, none⟩)) from rfl]
      repeat' first
        | refine s_move (by exact rfl) (by exact rfl) ?_ | refine w_move (by exact rfl) (by exact rfl) (by exact rfl) (by exact rfl) ?_ | refine g_on (by exact rfl) (by exact rfl) ?_ | refine s_q rfl rfl (by exact rfl) (q_iface rfl (by exact rfl)).q ?_ | refine s_q rfl rfl (by exact rfl) (q_nil_f rfl (by exact rfl)).q ?_ | fail
      refine s_lend (vs := [chV (.iface 23 (.int .i64 k)) (x :: r), .iface 31 (.pointer (some ⟨b, 0, none⟩))]) [boxHP b 29 [.pointer none]] _ (by exact rfl) (by exact rfl) (by exact rfl) (fun w S h => AsF_ok (.iface 23 (.int .i64 k)) x r b _ w S (hg.lent h) h.own) ?_
      rintro u L' ⟨rfl, rfl⟩
      repeat' first
        | refine k_then ?_ | refine c_seq ?_ | refine c_region ?_ | refine s_nil ?_ | refine s_move (by exact rfl) (by exact rfl) ?_ | refine s_sub (by exact rfl) (by exact rfl) (by exact rfl) (by omega) ?_ | refine s_len (by exact rfl) (by exact rfl) (by assumption) ?_ | refine s_idxi (by exact rfl) (by exact rfl) (by exact rfl) (by assumption) (by first | assumption | omega) ?_ | refine s_pick_f (by exact rfl) (by exact rfl) (by exact rfl) ?_ | refine s_ldk_ro (by exact rfl) (by exact rfl) (by assumption) (by decide) (by assumption) (by exact rfl) ?_ | refine o_alloc (by exact rfl) (fun b => ?_) | refine c_skip ?_ | refine c_cond_f (by exact rfl) ?_ | refine w_ld_box (by exact rfl) (by exact rfl) (by exact rfl) (by exact rfl) (by exact .head _) (by exact rfl) ?_ | refine w_not (by exact rfl) (by exact rfl) (by exact rfl) (by exact rfl) ?_ | refine g_on (by exact rfl) (by exact rfl) ?_ | refine s_q rfl rfl (by exact rfl) (q_pnil_f rfl (by exact rfl)).q ?_ | fail
      refine o_stk_box (i := 0) (us := [.string x.s, .int .i64 x.i]) (by exact rfl) (by exact rfl) (by exact rfl) (by exact rfl) (by exact rfl) (by simp [Value.oneCell']) (by simp [Value.cells]) ?_
      repeat' first
        | refine k_then ?_ | refine c_seq ?_ | refine s_nil ?_ | fail
      have hbx : boxHP x.b 37 (ndC (.iface 23 (.int .i64 k)) x r) ∈ (ndL (.iface 23 (.int .i64 k)) (x :: r)).reverse := List.mem_reverse.2 (.head _)
      have hl50 : l.length ≤ 50 ∧ sizes l ≤ 5000 := of_decide_eq_true hL
      have hsz := chB_size k (l := l.reverse) fun y hy => hi y (List.mem_reverse.1 hy)
      rw [sizes_rev, List.length_reverse] at hsz
      refine c_draw (by kernel_rfl) (by kernel_rfl) ?_
      repeat' first
        | refine d_ld_box (by exact rfl) (by exact rfl) (by exact .tail _ (.head _)) (by exact rfl) ?_ | fail
      refine d_call (by exact rfl) (by exact rfl) (fun w h => FError_ok k r x w (ht.old h) (chR_own h (.tail _ (.tail _ (.head _)))) (fun y hy => hi (y.s, y.i) (List.mem_reverse.1 (by rw [← hn]; exact List.mem_map_of_mem hy))) (by rw [hn]; omega)) ?_
      rw [hn]
      repeat' first
        | refine d_move (by exact rfl) (by exact rfl) ?_ | fail
      refine d_call (by exact rfl) (by exact rfl) (fun w h => refText_ok v l k w hs (ro_old h hr) hk hi hl50) ?_
      repeat' first
        | refine d_move (by exact rfl) (by exact rfl) ?_ | refine d_q rfl rfl (by exact rfl) (q_seq rfl (by exact rfl) (by exact rfl)).q ?_ | fail
      rw [beq_self_eq_true]
      repeat' first
        | refine dw_fa (by exact rfl) (by exact rfl) (by exact rfl) (by exact rfl) ?_ | refine dw_ld_box (by exact rfl) (by exact rfl) (by exact rfl) (by exact rfl) (by exact .tail _ (.head _)) (by exact rfl) ?_ | refine dg_on (by exact rfl) (by exact rfl) ?_ | refine d_q rfl rfl (by exact rfl) (q_nilck rfl (by exact rfl)).q ?_ | fail
      refine d_q rfl rfl (by exact rfl) (q_ld_kidb hbx (.tail _ (.tail _ (.head _))) rfl (by exact rfl) (by exact rfl)).q ?_
      repeat' first
        | refine d_move (by exact rfl) (by exact rfl) ?_ | refine d_pick_t (by exact rfl) (by exact rfl) (by exact rfl) ?_ | refine dw_fa (by exact rfl) (by exact rfl) (by exact rfl) (by exact rfl) ?_ | refine dw_ld_box (by exact rfl) (by exact rfl) (by exact rfl) (by exact rfl) (by exact .head _) (by exact rfl) ?_ | refine dg_on (by exact rfl) (by exact rfl) ?_ | refine d_q rfl rfl (by exact rfl) (q_seq rfl (by exact rfl) (by exact rfl)).q ?_ | fail
      rw [beq_self_eq_true]
      repeat' first
        | refine dw_fa (by exact rfl) (by exact rfl) (by exact rfl) (by exact rfl) ?_ | refine dw_ld_box (by exact rfl) (by exact rfl) (by exact rfl) (by exact rfl) (by exact .tail _ (.head _)) (by exact rfl) ?_ | refine dg_on (by exact rfl) (by exact rfl) ?_ | refine d_q rfl rfl (by exact rfl) (q_nilck rfl (by exact rfl)).q ?_ | fail
      refine d_q rfl rfl (by exact rfl) (q_ld_kidb hbx (.tail _ (.tail _ (.head _))) rfl (by exact rfl) (by exact rfl)).q ?_
      repeat' first
        | refine d_move (by exact rfl) (by exact rfl) ?_ | refine d_pick_t (by exact rfl) (by exact rfl) (by exact rfl) ?_ | (refine dg_case (by exact rfl) (by exact rfl) (fun h => ?_) (fun h => ?_) <;> try (exfalso; omega)) | refine dw_fa (by exact rfl) (by exact rfl) (by exact rfl) (by exact rfl) ?_ | refine dw_ld_box (by exact rfl) (by exact rfl) (by exact rfl) (by exact rfl) (by first | exact .head _ | exact .tail _ (.head _)) (by exact rfl) ?_ | refine dw_eql (by exact rfl) (by exact rfl) (by exact rfl) (by exact rfl) (by exact rfl) ?_ | refine dg_on (by exact rfl) (by exact rfl) ?_ | fail
      all_goals try (exact absurd rfl ‹¬ x.i = x.i›)
      obtain ⟨tt, uu, e⟩ := chV_if (bv := .iface 23 (.int .i64 k)) ⟨_, _, rfl⟩ r
      refine d_call (by exact rfl) (by exact rfl) (fun w h => FUnwrap_ok x.b _ (chV (.iface 23 (.int .i64 k)) r) w (chR_own h (.tail _ (.tail _ (.head _)))).1 rfl) ?_
      refine dg_on (by exact rfl) (by exact rfl) ?_
      refine d_q rfl rfl (by exact rfl) (q_nonnil_f rfl (by exact congrArg some e)).q ?_
      repeat' first
        | refine d_move (by exact rfl) (by exact rfl) ?_ | refine d_pick_t (by exact rfl) (by exact rfl) (by exact rfl) ?_ | refine dg_on (by exact rfl) (by exact rfl) ?_ | fail
      refine d_call (vs := []) (by exact rfl) (by exact rfl) (fun w h => alive03_ok w (ht.old h) (hg.old h)) ?_
      repeat' first
        | refine d_nil ?_ | refine d_assign (by exact rfl) (by exact rfl) ?_ | refine d_pick_t (by exact rfl) (by exact rfl) (by exact rfl) ?_ | fail
      repeat' first
        | refine k_then ?_ | refine c_ret ?_ | fail
      exact ret1 [] rfl rfl rfl ⟨rfl, rfl⟩
  · cases hL : lightK l with
    | false =>
      repeat' first
        | refine k_then ?_ | refine c_seq ?_ | refine c_region ?_ | refine s_nil ?_ | refine s_move (by exact rfl) (by exact rfl) ?_ | refine s_not (by exact rfl) (by exact rfl) ?_ | refine s_pick_t (by exact rfl) (by exact rfl) (by exact rfl) ?_ | refine c_cond_t (by exact rfl) ?_ | refine g_skip (by exact rfl) (by exact rfl) (by exact rfl) (by exact rfl) ?_ | fail
      refine s_call (vs := []) (by exact rfl) (by exact rfl) (fun w h => alive03_ok w (ht.old h) (hg.old h)) ?_
      repeat' first
        | refine k_then ?_ | refine s_nil ?_ | refine s_assign (by exact rfl) (by exact rfl) ?_ | refine c_ret ?_ | refine k_then_ret ?_ | fail
      exact ret1 [] rfl rfl rfl ⟨rfl, rfl⟩
    | true =>
      repeat' first
        | refine k_then ?_ | refine c_seq ?_ | refine c_region ?_ | refine s_nil ?_ | refine s_move (by exact rfl) (by exact rfl) ?_ | refine s_not (by exact rfl) (by exact rfl) ?_ | refine s_pick_t (by exact rfl) (by exact rfl) (by exact rfl) ?_ | refine s_pick_f (by exact rfl) (by exact rfl) (by exact rfl) ?_ | refine c_skip ?_ | (refine c_cond_p (by exact rfl) (fun h => ?_) (fun h => ?_) <;> try (exfalso; omega)) | refine c_cond_t (by exact rfl) ?_ | (refine g_case (by exact rfl) (by exact rfl) (fun h => ?_) (fun h => ?_) <;> try (exfalso; omega)) | refine g_skip (by exact rfl) (by exact rfl) (by exact rfl) (by exact rfl) ?_ | refine w_move (by exact rfl) (by exact rfl) (by exact rfl) (by exact rfl) ?_ | refine w_eql (by exact rfl) (by exact rfl) (by exact rfl) (by exact rfl) (by exact rfl) ?_ | refine w_len (by exact rfl) (by exact rfl) (by exact rfl) (by exact rfl) (by assumption) ?_ | fail
      · refine s_call (vs := []) (by exact rfl) (by exact rfl) (fun w h => alive03_ok w (ht.old h) (hg.old h)) ?_
        repeat' first
          | refine k_then ?_ | refine s_nil ?_ | refine s_assign (by exact rfl) (by exact rfl) ?_ | refine c_ret ?_ | refine k_then_ret ?_ | fail
        exact ret1 [] rfl rfl rfl ⟨rfl, rfl⟩
      · refine s_call (vs := []) (by exact rfl) (by exact rfl) (fun w h => alive03_ok w (ht.old h) (hg.old h)) ?_
        repeat' first
          | refine k_then ?_ | refine s_nil ?_ | refine s_assign (by exact rfl) (by exact rfl) ?_ | refine c_ret ?_ | refine k_then_ret ?_ | fail
        exact ret1 [] rfl rfl rfl ⟨rfl, rfl⟩
      · exact absurd ⟨hL, ‹_›, fun e => by subst e; exact absurd rfl ‹¬ (([] : List Stp).length : Int) = 0›⟩ hc
end Go.Proofs.YtllkoinbfegonaaDoor
end
section
namespace Go.Proofs.YtllkoinbfegonaaDoor
open Go.ChangeShapes Go.WideShapes Go.ChangeAt Go.RowKit Go.Joins Go.Deep Go.Sl
set_option maxRecDepth 100000
set_option linter.unusedVariables false
set_option linter.unusedSimpArgs false
theorem row_own : ownKnob Tryd.prog.godebug = none := by kernel_rfl
theorem row_laid : laidOutB Tryd.prog = true := by kernel_rfl
theorem cells_step : Tryd.prog.cellsOf 33 = 2 := by kernel_rfl
section
variable {H : Type} {enc : TypeId × Value → H}
theorem slice_spot {P : Program} {w : World} {r : Reach} {base : Nat} {t e : TypeId} {a : Addr} {len cap : Nat} (hu : P.underlying t = some (.slice e)) (h : Cell.okWide P w r base t (.slice (some a) len cap)) : a.spot = none := by
  simp only [Cell.okWide, hu, Cell.ok, World.has] at h
  exact h.2.2.2.1
theorem weights_all {P : Program} {e : TypeId} : ∀ {l : List (DataW H)} {d : DataW H}, d ∈ l → ∀ n ∈ d.weights P e, n ∈ DataW.weightsAll P e l
  | [], _, h, _, _ => by cases h
  | x :: l, d, h, n, hn => by
    rw [DataW.weightsAll]
    rcases List.mem_cons.1 h with rfl | h
    · exact List.mem_append.2 (.inl hn)
    · exact List.mem_append.2 (.inr (weights_all h n hn))
theorem okc_steps {W : World} {base : Nat} {v x : Value} (hc : Cell.okWide Tryd.prog W .any base 22 v) (h : v.cells.toList = [x]) : v = x := by
  cases v <;> first | (simpa [Value.cells] using h) | (simp [Cell.okWide, Tryd.underlying22, Cell.ok] at hc)
theorem st_list {n : Nat} {f : Nat → Nat → Value} {p : Stp → Prop} (h : ∀ i, i < n → ∃ s a, f i 0 = .string s ∧ f i 1 = .int .i64 a ∧ p (s, a)) : ∃ l : List Stp, l.length = n ∧ (∀ x ∈ l, p x) ∧ ∀ (i : Nat) j u, i < n → j < 2 → (stV l)[i * 2 + j]? = some u → u = f i j := by
  induction n with
  | zero => exact ⟨[], rfl, by simp, fun i j u hi => by omega⟩
  | succ n ih =>
    obtain ⟨l, h1, hp, h2⟩ := ih fun i hi => h i (by omega)
    obtain ⟨a, b, ha, hb, hab⟩ := h n (by omega)
    refine ⟨l ++ [(a, b)], by simp [h1], fun x hx => ?_, fun i j u hi hj hu => ?_⟩
    · rcases List.mem_append.1 hx with hx | hx
      · exact hp x hx
      · obtain rfl := List.mem_singleton.1 hx; exact hab
    rw [show stV (l ++ [(a, b)]) = stV l ++ [.string a, .int .i64 b] by simp [stV]] at hu
    have hl := stV_length l
    by_cases hin : i < n
    · rw [List.getElem?_append_left (by omega)] at hu
      exact h2 i j u hin hj hu
    · obtain rfl : i = n := by omega
      rw [List.getElem?_append_right (by omega), show i * 2 + j - (stV l).length = j from by omega] at hu
      match j, hj with
      | 0, _ => simp at hu; rw [← hu, ha]
      | 1, _ => simp at hu; rw [← hu, hb]
theorem open_steps {W : World} {base : Nat} {v : Value} {d : DataW H} {p : List MemPlace} (hv : Value.okWide Tryd.prog W .any base 22 v) (h : DataW.Trod enc Tryd.prog W 0 (fun _ => true) true 22 v d p) (hz : ∀ n ∈ d.weights Tryd.prog 22, n ≤ reachBytes) :
    ∃ l : List Stp, Shp v l.length ∧ RO W No v (stV l) ∧ (∀ x ∈ l, x.1.size ≤ 140737488351232 ∧ I64 x.2) := by
  obtain ⟨fuel, hf⟩ := h
  have hc : Cell.okWide Tryd.prog W .any base 22 v := by
    simp only [Value.okWide, Tryd.underlying22] at hv
    exact hv
  rcases open_slice Tryd.underlying22 hf with ⟨hcs, _⟩ | ⟨a, len, cap, m, n, D, Pl, hcs, _, hl, hm, hmm, hxd, hx⟩
  · have hv0 : v = .slice none 0 0 := okc_steps hc hcs
    subst hv0
    exact ⟨[], ⟨by simp [maxLen], .inl ⟨rfl, rfl⟩⟩, RO.of_rd fun j u hj => by simp [stV] at hj, by simp⟩
  · have hv0 : v = .slice (some a) len cap := okc_steps hc hcs
    subst hv0
    have hsp := slice_spot Tryd.underlying22 hc
    obtain ⟨g, off, sp⟩ := a
    dsimp only at hsp
    subst hsp
    simp only [if_true] at hmm
    subst hmm
    have key : ∀ i, i < len → ∃ s b, W.cell? ⟨g, off + (i * 2 + 0), none⟩ = some (.string s) ∧ W.cell? ⟨g, off + (i * 2 + 1), none⟩ = some (.int .i64 b) ∧ s.size ≤ 140737488351232 ∧ I64 b := by
      intro i hi
      obtain ⟨cs, h1, h2⟩ := hx i (by omega)
      rw [cells_step] at h1
      obtain ⟨_, hlen, hc⟩ := World.cells?_some h1
      obtain ⟨y0, y1, k, hy, _, t0, t1⟩ := trod_struct2 Tryd.underlying33 h2
      obtain ⟨s, e0, hs0, -⟩ := DataW.trod_string Tryd.underlying9 t0
      obtain ⟨b, e1, hs1, hwf⟩ := DataW.trod_int Tryd.underlying3 t1
      match cs, hlen, hc, e0, e1 with
      | [x0, x1], _, hc, e0, e1 =>
        have c0 := hc 0 (by omega)
        have c1 := hc 1 (by omega)
        have f0 : x0 = .string s := by
          have : [x0] = [.string s] := e0
          simpa using this
        have f1 : x1 = .int .i64 b := by
          have : [x1] = [.int .i64 b] := e1
          simpa using this
        subst f0 f1
        refine ⟨s, b, ?_, ?_, ?_, ?_⟩
        · rw [Deep.add_add] at c0
          rw [show (⟨g, off + (i * 2 + 0), none⟩ : Addr) = (⟨g, off, none⟩ : Addr).add (i * 2 + 0) from by simp [Addr.add]]
          exact c0
        · rw [Deep.add_add] at c1
          rw [show (⟨g, off + (i * 2 + 1), none⟩ : Addr) = (⟨g, off, none⟩ : Addr).add (i * 2 + 1) from by simp [Addr.add]]
          exact c1
        · have e3 : D i = .agg [.lit (.string s.data.toList), y1.1] := by
            have := congrArg Prod.fst hy
            rw [hs0] at this
            exact this
          have h5 : s.data.toList.length ∈ (D i).weights Tryd.prog 33 := by
            rw [e3, DataW.weights, Tryd.underlying33]
            show _ ∈ DataW.weights _ _ _ ++ _
            rw [DataW.weights]
            exact List.mem_append.2 (.inl (.head _))
          have h6 : (D i) ∈ (List.range len).map D := List.mem_map.2 ⟨i, List.mem_range.2 hi, rfl⟩
          have h7 := hz _ (by
            rw [show d = _ from congrArg Prod.fst hxd, DataW.weights, Tryd.underlying22]
            exact List.mem_cons.2 (.inr (List.mem_append.2 (.inl (weights_all h6 _ h5)))))
          simp only [reachBytes, Array.length_toList] at h7
          show s.data.size ≤ _
          omega
        · simp [Lit.wf, IntKind.min, IntKind.max, IntKind.signed, IntKind.bits] at hwf
          exact ⟨by omega, by omega⟩
    obtain ⟨l, hl1, hlp, hl2⟩ := st_list (n := len) (p := fun x => x.1.size ≤ 140737488351232 ∧ I64 x.2) (f := fun i j => (W.cell? ⟨g, off + (i * 2 + j), none⟩).getD undef) (fun i hi => by
      obtain ⟨s, b, h0, h1, h2⟩ := key i hi
      exact ⟨s, b, congrArg (fun x => Option.getD x undef) h0, congrArg (fun x => Option.getD x undef) h1, h2⟩)
    subst hl1
    refine ⟨l, ⟨by omega, .inr (.inl ⟨g, off, m, rfl, hl, hm⟩)⟩, RO.of_rd fun j u hj => ⟨g, off, l.length, m, rfl, ?_⟩, hlp⟩
    have hlt := (List.getElem?_eq_some_iff.1 hj).1
    rw [stV_length] at hlt
    have hd : j / 2 * 2 + j % 2 = j := by omega
    have hu := hl2 (j / 2) (j % 2) u (by omega) (by omega) (by rw [hd]; exact hj)
    rw [hd] at hu
    obtain ⟨s, b, h0, h1, _⟩ := key (j / 2) (by omega)
    have hex : ∃ x, W.cell? ⟨g, off + j, none⟩ = some x := by
      have : j % 2 = 0 ∨ j % 2 = 1 := by omega
      rcases this with h | h
      · exact ⟨_, by rw [← hd, h]; exact h0⟩
      · exact ⟨_, by rw [← hd, h]; exact h1⟩
    obtain ⟨x, hx⟩ := hex
    rw [hx] at hu ⊢
    rw [hu]
    rfl
end
end Go.Proofs.YtllkoinbfegonaaDoor
end
section
namespace Go.Proofs.YtllkoinbfegonaaDoor
open Go Go.ChangeShapes Go.WideShapes Go.RowKit Go.Sl Go.Lib
set_option maxRecDepth 100000
set_option linter.unusedVariables false
theorem et : Tryd.prog.globalNamed "errors.errorType" = some 0 := by kernel_rfl
theorem rtN : (Tryd.prog.cutTypes.find? (·.1 == "internal/reflectlite.rtype")).map (·.2) = some 108 := by kernel_rfl
theorem oneRow : ((List.range Tryd.prog.types.size).filter fun t => Tryd.prog.rowNamed t [101, 114, 114, 111, 114]) = [27] := by kernel_rfl
theorem handle_of {W : World} (h : handlesMet Tryd.prog [("errors.errorType", Rows.laid_errors_errorType)] W) : W.cell? ⟨0, 0, none⟩ = some (rT 27) := by
  obtain ⟨name, u, ty, e1, e2, e3, e4, e5⟩ := h _ (List.mem_singleton.2 rfl)
  have en : name = [101, 114, 114, 111, 114] := (Option.some.inj e1).symm
  subst en
  obtain rfl := Option.some.inj (rtN.symm.trans e2)
  have hm : ty ∈ (List.range Tryd.prog.types.size).filter fun t => Tryd.prog.rowNamed t [101, 114, 114, 111, 114] := List.mem_filter.2 ⟨List.mem_range.2 e3, e4⟩
  rw [oneRow] at hm
  obtain rfl := List.mem_singleton.1 hm
  simpa using World.var?_cell et e5 0
theorem pow_name : Tryd.prog.globalNamed "internal/strconv.uint64pow10" = some 1 := by kernel_rfl
def laid3 : List (String × DataW Unit) := [("math/bits.deBruijn32tab", Rows.laid_math_bits_deBruijn32tab), ("math/bits.deBruijn64tab", Rows.laid_math_bits_deBruijn64tab), ("internal/strconv.uint64pow10", Rows.laid_internal_strconv_uint64pow10)]
theorem laid_parts {W : World} (h : laidMetH Tryd.prog Rows.faultKindsRow.laid W) : laidMet Tryd.prog laid3 W ∧ handlesMet Tryd.prog [("errors.errorType", Rows.laid_errors_errorType)] W := h
theorem laid_cells {W : World} (h : laidMetH Tryd.prog Rows.faultKindsRow.laid W) : W.cell? ⟨0, 0, none⟩ = some (rT 27) := handle_of (laid_parts h).2
theorem laid_tab {W : World} (h : laidMetH Tryd.prog Rows.faultKindsRow.laid W) : TabIs Tryd.prog W "internal/strconv.uint64pow10" .u64 pow10Tab := by
  obtain ⟨ps, hl, -, -⟩ := (laid_parts h).1
  obtain ⟨_, _, _, _, _, _, _, _, _, _, hl2, _⟩ := hl
  obtain ⟨_, _, _, _, _, _, _, _, _, _, hl3, _⟩ := hl2
  obtain ⟨g', t', cs, fuel, p, q, hg', ht', hvar, hd, _, _⟩ := hl3
  obtain rfl := Option.some.inj (pow_name.symm.trans hg')
  have hty : (Tryd.prog.globals[(1 : Nat)]?).map (·.type) = some t' := ht'
  have ht : ∃ e, Tryd.prog.underlying t' = some (.array 20 e) ∧ Tryd.prog.underlying e = some (.int .u64) ∧ Tryd.prog.cellsOf e = 1 ∧ Tryd.prog.cellsOf t' = 20 := by
    obtain rfl := Option.some.inj (ht'.symm.trans (show (Tryd.prog.globals[(1 : Nat)]?).map (·.type) = some 157 by kernel_rfl))
    exact ⟨90, Tryd.underlying157, Tryd.underlying90, by kernel_rfl, by kernel_rfl⟩
  obtain ⟨e, h1, h2, h3, h4⟩ := ht
  unfold TabIs
  rw [hvar, ← cells_of_tab (zs := pow10Tab) h1 h2 h3 h4 hd]
theorem rc_of {W : World} {b : Nat} {v : Value} (h : W.cell? ⟨b, 0, none⟩ = some v) : RC W No b v := fun w' S' hm => by
  rw [hm.below.cell (p := ⟨b, 0, none⟩) (World.block_lt_of_cell? W _ h)]; exact h
theorem rt_of {W : World} (h : TabIs Tryd.prog W "internal/strconv.uint64pow10" .u64 pow10Tab) : RT W No := fun w' S' hm =>
  var?_below hm.below pow_name (World.block_lt_of_cell? W ⟨1, 0, none⟩ (h.cell pow_name 0 (by decide))) h
noncomputable def cellsOfD : DataW Unit → Array Value
  | .agg l => (l.map fun | .lit (.int k n) => Value.int k n | _ => undef).toArray
  | _ => #[]
noncomputable def putG (w : World) (g : Nat) (cs : Array Value) : World := { w with heap := w.heap.modify g fun | .cells _ t frozen => .cells cs t frozen | o => o }
noncomputable def laidWorld (os : Os) : World :=
  putG (putG (putG (putG (World.holding Tryd.prog os ⟨#[], #[], []⟩) 0 #[rT 27]) 1 (cellsOfD Rows.laid_internal_strconv_uint64pow10)) 3 (cellsOfD Rows.laid_math_bits_deBruijn32tab)) 4 (cellsOfD Rows.laid_math_bits_deBruijn64tab)
theorem laidWorld_met (os : Os) (args : Array Value) : laidMetH Tryd.prog Rows.faultKindsRow.laid ((laidWorld os).forCall (fun _ _ => 0) ⟨#[], args, []⟩).memory :=
  laidMetH_of_parts (laidMet_of_run' 8 (by kernel_rfl) (by kernel_rfl)) (by kernel_rfl)
end Go.Proofs.YtllkoinbfegonaaDoor
end
