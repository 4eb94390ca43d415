/- The laws of levels: the chapter's example. -/
import Derived.Test.YtkekpgkacjpjnaaLevP
import Derived.Test.YtkekpgkacjpjnaaLists
namespace Go.Proofs.Ytkekpgkacjpjnaa
open Go.RowKit Go.Sl Fil
set_option maxRecDepth 100000
set_option maxHeartbeats 8000000
set_option linter.unusedVariables false
set_option linter.unusedSimpArgs false
attribute [local irreducible] Code.wp wpList bodyPost wpQuiet Exit.then Exit.inBlock Post wpAnyH wpOp
def es0 : List E := [(0, 1, 0), (1, 2, 0), (2, 3, 0)]
theorem alive_ok (w : World) : Calls Try.prog 14 #[] w (Post w No (Just (.bool true))) := by
  have hR : RightG 4 es0 := right_iff.1 (by decide)
  refine enter0 (vs := []) Try.func14 rfl Try.ntmps14 rfl ?_
  repeat' first
    | refine k_then ?_
    | refine c_seq ?_
    | refine c_region ?_
    | refine s_nil ?_
    | refine s_assign (by exact rfl) (by exact rfl) ?_
  refine o_build [(0, .int .i64 0, [.int .i64 0]), (1, .int .i64 1, [.int .i64 1])] (by exact rfl) (by exact rfl) (by simp [Value.cells]) (by exact rfl) ?_
  refine o_build [(0, .int .i64 1, [.int .i64 1]), (1, .int .i64 2, [.int .i64 2])] (by exact rfl) (by exact rfl) (by simp [Value.cells]) (by exact rfl) ?_
  refine o_build [(0, .int .i64 2, [.int .i64 2]), (1, .int .i64 3, [.int .i64 3])] (by exact rfl) (by exact rfl) (by simp [Value.cells]) (by exact rfl) ?_
  refine o_mk [.agg (eV (0, 1, 0)).toArray, .agg (eV (1, 2, 0)).toArray, .agg (eV (2, 3, 0)).toArray] (by exact rfl) (by exact rfl) rfl ?_ ?_ (by simp) fun v hv => ?_
  · simp [Value.cells, eV]
  · simp
  rw [show ([Value.agg (eV (0, 1, 0)).toArray, .agg (eV (1, 2, 0)).toArray, .agg (eV (2, 3, 0)).toArray].flatMap fun u => u.cells.toList) = esV es0 from rfl]
  refine o_build [(0, .int .i64 4, [.int .i64 4]), (1, v, [v])] (by exact rfl) (by exact rfl) (by
    intro q hq
    simp only [List.mem_cons, List.not_mem_nil, or_false] at hq
    rcases hq with rfl | rfl
    · rfl
    · exact one_cells hv.one) (by exact rfl) ?_
  repeat' first
    | refine o_alloc (by exact rfl) (fun b => ?_)
  refine o_stk_box (i := 0) (us := [.int .i64 4, v]) (by exact rfl) (by exact rfl) (by exact rfl) (by exact rfl) (by exact rfl) (by
    intro u hu
    simp only [List.mem_cons, List.not_mem_nil, or_false] at hu
    rcases hu with rfl | rfl
    · rfl
    · exact hv.one) (by simp [Value.cells]) ?_
  repeat' first
    | refine k_then ?_
    | refine c_seq ?_
    | refine c_region ?_
    | refine s_nil ?_
    | refine s_ldk_box (by exact rfl) (by exact rfl) (by exact .head _) (by exact rfl) (by exact rfl) ?_
  refine o_call (by exact rfl) (by exact rfl) (fun w h => levOf_ok 4 v es0 w hv (ro_own h (by exact .tail _ (.head _))) hR) ?_
  rintro _ _ ⟨out, lab, vl, rfl, rfl, hol, hLev0⟩
  have hLev : Lev 4 (nb (tn es0)) (fun v => out.getD v 0) lab := hLev0.nb_of
  have hG : Fil.Good 4 (tn es0) := hR.good
  have hlab : (List.range 4).map lab = [0, 0, 0, 0] := by rw [← ref_labels hG hLev]; decide
  have hg : ((List.range 4).map fun v => if lab v ≠ v then 4 else 0) = [0, 4, 4, 4] := by
    have h : lab 0 = 0 ∧ lab 1 = 0 ∧ lab 2 = 0 ∧ lab 3 = 0 := by simpa [List.range_succ] using hlab
    simp [List.range_succ, h]
  have ho : (List.range 4).map (fun v => out.getD v 0) = [0, 1, 2, 3] := by
    have hrl : rounds relaxO (tn es0) 4 ((List.range 4).map fun v => if lab v ≠ v then 4 else 0) = (List.range 4).map (fun v => out.getD v 0) := ref_levels hG hLev
    rw [← hrl, hg]; decide
  have hout : out = [0, 1, 2, 3] := (list_map_getD hol fun v _ => rfl).trans ho
  refine know_row (v := vl) (.head _) fun hvl _ => ?_
  repeat' first
    | refine k_then ?_
    | refine c_seq ?_
    | refine c_region ?_
    | refine s_nil ?_
    | refine s_move (by exact rfl) (by exact rfl) ?_
    | refine s_assign (by exact rfl) (by exact rfl) ?_
    | refine s_extract (by exact rfl) (by exact rfl) (by exact rfl) ?_
    | refine s_ldk_box (by exact rfl) (by exact rfl) (by exact .tail _ (.head _)) (by exact rfl) (by exact rfl) ?_
  refine o_call (by exact rfl) (by exact rfl) (fun w h => Pieces_ok 4 v es0 1 0 (fun v => out.getD v 0) lab w hv (ro_own h (by exact .tail _ (.tail _ (.head _)))) hR hLev (by omega)) ?_
  rintro _ _ ⟨o', lab', vp, hp, hLev1, rfl, hpl, rfl⟩
  have hk : keptL (Int.toNat 4) (Int.toNat 1) (Int.toNat 0) (fun v => out.getD v 0) = [false, true, false, true] := by rw [hout]; decide
  rw [hk] at hLev1 hpl ⊢
  have hLev2 : Lev 4 (nb []) o' lab' := hLev1
  have hl2 : (List.range 4).map lab' = [0, 1, 2, 3] := by
    rw [← ref_labels (es := []) (by constructor <;> simp) hLev2]; decide
  have hc : compsS (Int.toNat 4) lab' = [[0], [1], [2], [3]] := by
    have h : lab' 0 = 0 ∧ lab' 1 = 1 ∧ lab' 2 = 2 ∧ lab' 3 = 3 := by simpa [List.range_succ] using hl2
    have e : ∀ v, v < 4 → lab' v = id v := fun v hv => by
      match v, hv with
      | 0, _ => exact h.1
      | 1, _ => exact h.2.1
      | 2, _ => exact h.2.2.1
      | 3, _ => exact h.2.2.2
    exact (compsS_congr (N := 4) e).trans (by decide)
  rw [hc] at hpl ⊢
  have hs : selL [false, true, false, true] [[0], [1], [2], [3]] = [[1], [3]] := by decide
  rw [hs] at hpl ⊢
  rw [hout]
  refine know_row (v := vp) (.head _) fun hvp _ => ?_
  repeat' first
    | refine k_then ?_
    | refine c_seq ?_
    | refine c_region ?_
    | refine s_nil ?_
    | refine s_move (by exact rfl) (by exact rfl) ?_
    | refine s_assign (by exact rfl) (by exact rfl) ?_
    | refine s_eql (by exact rfl) (by exact rfl) (by exact rfl) ?_
    | refine s_extract (by exact rfl) (by exact rfl) (by exact rfl) ?_
    | refine s_pick_t (by exact rfl) (by exact rfl) (by exact rfl) ?_
    | (refine g_case (by exact rfl) (by exact rfl) (fun h => ?_) (fun h => ?_) <;> try (exfalso; omega))
    | refine w_move (by exact rfl) (by exact rfl) (by exact rfl) (by exact rfl) ?_
    | refine w_eql (by exact rfl) (by exact rfl) (by exact rfl) (by exact rfl) (by exact rfl) ?_
    | refine g_on (by exact rfl) (by exact rfl) ?_
  refine o_mk [.int .i64 0, .int .i64 1, .int .i64 2, .int .i64 3] (by exact rfl) (by exact rfl) rfl ?_ ?_ (by simp) fun vt hvt => ?_
  · simp [Value.cells]
  · simp
  rw [show ([Value.int .i64 0, .int .i64 1, .int .i64 2, .int .i64 3].flatMap fun u => u.cells.toList) = nV [0, 1, 2, 3] from rfl]
  repeat' first
    | refine g_on (by exact rfl) (by exact rfl) ?_
  refine s_call (by exact rfl) (by exact rfl) (fun w h => IntsN_t vl vt [0, 1, 2, 3] [0, 1, 2, 3] w rfl hvl hvt (ro_own h (by exact .tail _ (.tail _ (.tail _ (.head _))))) (ro_own h (by exact .head _))) ?_
  repeat' first
    | refine s_move (by exact rfl) (by exact rfl) ?_
    | refine s_pick_t (by exact rfl) (by exact rfl) (by exact rfl) ?_
    | refine w_move (by exact rfl) (by exact rfl) (by exact rfl) (by exact rfl) ?_
    | refine g_on (by exact rfl) (by exact rfl) ?_
  refine o_mk [.int .i64 1] (by exact rfl) (by exact rfl) rfl ?_ ?_ (by simp) fun v1 hv1 => ?_
  · simp [Value.cells]
  · simp
  repeat' first
    | refine g_on (by exact rfl) (by exact rfl) ?_
  refine o_mk [.int .i64 3] (by exact rfl) (by exact rfl) rfl ?_ ?_ (by simp) fun v3 hv3 => ?_
  · simp [Value.cells]
  · simp
  repeat' first
    | refine g_on (by exact rfl) (by exact rfl) ?_
  refine o_mk [v1, v3] (by exact rfl) (by exact rfl) rfl ?_ ?_ (by simp) fun v4 hv4 => ?_
  · intro u hu
    simp only [List.mem_cons, List.not_mem_nil, or_false] at hu
    rcases hu with rfl | rfl
    · rw [← Array.length_toList, one_cells hv1.one]; rfl
    · rw [← Array.length_toList, one_cells hv3.one]; rfl
  · simp
  rw [show ([v1, v3].flatMap fun u => u.cells.toList) = [v1, v3] from by simp [one_cells hv1.one, one_cells hv3.one]]
  repeat' first
    | refine g_on (by exact rfl) (by exact rfl) ?_
  refine c_star0 ?_
  refine c_pick [3, 0, 0, 2, 2, 0] (by exact rfl) ?_
  refine c_pushk 0 (by exact rfl) ?_
  refine c_pick [4, 0, 0, 0, 0] (by exact rfl) ?_
  refine c_pushk 0 (by exact rfl) ?_
  refine s_call (by exact rfl) (by exact rfl) (fun w h => Lists_ok vp v4 hp [v1, v3] [[1], [3]] [[1], [3]] w (ros_own h (.tail _ (.tail _ (.head _))) rfl (.tail _ (.tail _ (.tail _ (.head _))))) (ros_own h (.tail _ (.head _)) rfl (.head _))) ?_
  repeat' first
    | refine k_then ?_
    | refine s_nil ?_
    | refine s_assign (by exact rfl) (by exact rfl) ?_
    | refine s_pick_t (by exact rfl) (by exact rfl) (by exact rfl) ?_
    | refine c_ret ?_
  refine ret1 [] rfl rfl rfl ⟨congrArg Value.bool ?_, rfl⟩
  decide
end Go.Proofs.Ytkekpgkacjpjnaa
