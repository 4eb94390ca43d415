/- Package levels: what may not be asked. -/
import Derived.Test.YtkekpgkacjpjnaaRef18K
import Derived.Test.YtkekpgkacjpjnaaKept
namespace Go.Proofs.Ytkekpgkacjpjnaa
open Go.RowKit Go.Sl Fil
set_option maxRecDepth 100000
set_option maxHeartbeats 8000000
set_option linter.unusedVariables false
set_option linter.unusedSimpArgs false
attribute [local irreducible] Code.wp wpList bodyPost wpQuiet Exit.then Exit.inBlock Post wpAnyH wpOp
theorem keptNo_ok (n : Int) (v : Value) (es : List E) (k s : Int) (w : World) (hs : Shp v es.length) (hr : RO w No v (esV es)) (hm : es.length < 4611686018427387904) (hA : askK n es k s ≠ 0) :
    Calls Try.prog 19 #[.agg #[.int .i64 n, v], .int .i64 k, .int .i64 s] w (Post w No (Just (.tuple #[.slice none 0 0, .int .i64 (askK n es k s)]))) := by
  refine enter0 (vs := [_, _, _]) Try.func19 rfl Try.ntmps19 rfl ?_
  by_cases hR0 : rightK n es = 0
  · have hR := right_iff.1 hR0
    have hb : k < 1 ∨ 8 < k ∨ s < 0 ∨ k < s := by
      simp only [askK, hR0, ne_eq, not_true_eq_false, if_false] at hA
      split at hA
      · assumption
      · exact absurd rfl hA
    have he : askK n es k s = 11 := by
      simp only [askK, hR0, ne_eq, not_true_eq_false, if_false]
      rw [if_pos hb]
    rw [he]
    repeat' first
      | refine k_then ?_
      | refine c_seq ?_
      | refine c_region ?_
      | refine s_nil ?_
      | refine s_assign (by exact rfl) (by exact rfl) ?_
      | refine s_ldk_box (by exact rfl) (by exact rfl) (by exact .head _) (by exact rfl) (by exact rfl) ?_
      | refine o_box (by exact rfl) (by exact rfl) (fun b => ?_)
    refine o_call (by exact rfl) (by exact rfl) (fun w h => levOf_ok n v es w hs (ro_old h hr) hR) ?_
    rintro _ _ ⟨out, lab, vl, rfl, rfl, hol, hLev⟩
    repeat' first
      | refine k_then ?_
      | refine c_seq ?_
      | refine c_region ?_
      | refine s_nil ?_
      | refine s_move (by exact rfl) (by exact rfl) ?_
      | refine s_assign (by exact rfl) (by exact rfl) ?_
      | refine s_lss (by exact rfl) (by exact rfl) (by exact rfl) ?_
      | refine s_gtr (by exact rfl) (by exact rfl) (by exact rfl) ?_
      | refine s_neq (by exact rfl) (by exact rfl) (by exact rfl) ?_
      | refine s_extract (by exact rfl) (by exact rfl) (by exact rfl) ?_
      | refine c_block ?_
      | refine c_skip ?_
      | refine c_ret ?_
      | refine k_then_ret ?_
      | refine k_blk_ret ?_
      | (refine c_cond_p (by exact rfl) (fun h => ?_) (fun h => ?_) <;> try (exfalso; omega))
    all_goals refine ret2 [] rfl rfl rfl rfl ⟨rfl, rfl⟩
  · have he : askK n es k s = 1 := by simp [askK, hR0]
    rw [he]
    repeat' first
      | refine k_then ?_
      | refine c_seq ?_
      | refine c_region ?_
      | refine s_nil ?_
      | refine s_assign (by exact rfl) (by exact rfl) ?_
      | refine s_ldk_box (by exact rfl) (by exact rfl) (by exact .head _) (by exact rfl) (by exact rfl) ?_
      | refine o_box (by exact rfl) (by exact rfl) (fun b => ?_)
    refine s_call (by exact rfl) (by exact rfl) (fun w h => levOf_no n v es w hs (ro_old h hr) hm hR0) ?_
    repeat' first
      | refine k_then ?_
      | refine c_seq ?_
      | refine c_region ?_
      | refine s_nil ?_
      | refine s_move (by exact rfl) (by exact rfl) ?_
      | refine s_assign (by exact rfl) (by exact rfl) ?_
      | refine s_neq (by exact rfl) (by exact rfl) (by exact rfl) ?_
      | refine s_extract (by exact rfl) (by exact rfl) (by exact rfl) ?_
      | refine c_block ?_
      | refine c_ret ?_
      | refine k_then_ret ?_
      | refine k_blk_ret ?_
      | (refine c_cond_p (by exact rfl) (fun h => ?_) (fun h => ?_) <;> try (exfalso; omega))
    refine ret2 [] rfl rfl rfl rfl ⟨rfl, rfl⟩
theorem piecesNo_ok (n : Int) (v : Value) (es : List E) (k s : Int) (w : World) (hs : Shp v es.length) (hr : RO w No v (esV es)) (hm : es.length < 4611686018427387904) (hA : askK n es k s ≠ 0) :
    Calls Try.prog 20 #[.agg #[.int .i64 n, v], .int .i64 k, .int .i64 s] w (Post w No (Just (.tuple #[.slice none 0 0, .int .i64 (askK n es k s)]))) := by
  refine enter0 (vs := [_, _, _]) Try.func20 rfl Try.ntmps20 rfl ?_
  repeat' first
    | refine k_then ?_
    | refine c_seq ?_
    | refine c_region ?_
    | refine s_nil ?_
    | refine s_move (by exact rfl) (by exact rfl) ?_
    | refine s_assign (by exact rfl) (by exact rfl) ?_
    | refine s_ldk_box (by exact rfl) (by exact rfl) (by exact .head _) (by exact rfl) (by exact rfl) ?_
    | refine o_box (by exact rfl) (by exact rfl) (fun b => ?_)
  refine s_call (by exact rfl) (by exact rfl) (fun w h => keptNo_ok n v es k s w hs (ro_old h hr) hm hA) ?_
  repeat' first
    | refine k_then ?_
    | refine c_seq ?_
    | refine c_region ?_
    | refine s_nil ?_
    | refine s_move (by exact rfl) (by exact rfl) ?_
    | refine s_assign (by exact rfl) (by exact rfl) ?_
    | refine s_neq (by exact rfl) (by exact rfl) (by exact rfl) ?_
    | refine s_extract (by exact rfl) (by exact rfl) (by exact rfl) ?_
    | refine c_ret ?_
    | refine k_then_ret ?_
    | (refine c_cond_p (by exact rfl) (fun h => ?_) (fun h => ?_) <;> try (exfalso; omega))
  refine ret2 [] rfl rfl rfl rfl ⟨rfl, rfl⟩
theorem ask_zero {n : Int} {es : List E} {k s : Int} (h : askK n es k s = 0) : RightG n es ∧ 1 ≤ k ∧ k ≤ 8 ∧ 0 ≤ s ∧ s ≤ k := by
  simp only [askK] at h
  split at h
  · omega
  · rename_i h1
    split at h
    · omega
    · exact ⟨right_iff.1 (by omega), by omega⟩
end Go.Proofs.Ytkekpgkacjpjnaa
