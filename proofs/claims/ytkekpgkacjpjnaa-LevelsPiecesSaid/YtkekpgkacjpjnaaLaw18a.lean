/- The law of levels' Of: for every graph it answers true. -/
import Derived.Test.YtkekpgkacjpjnaaAlive18
namespace Go.Proofs.Ytkekpgkacjpjnaa
open Go.RowKit Go.Sl Fil
set_option maxRecDepth 100000
set_option maxHeartbeats 8000000
set_option linter.unusedVariables false
set_option linter.unusedSimpArgs false
attribute [local irreducible] Code.wp wpList bodyPost wpQuiet Exit.then Exit.inBlock Post wpAnyH wpOp
theorem Light_b (n : Int) (v : Value) (m : Nat) (k : Int) (b : Bool) (w : World) (hb : (decide (n ≤ k) && decide ((m : Int) ≤ 4 * k)) = b) (hs : Shp v m) (hk : 0 ≤ k ∧ k < 1000000) :
    Calls Try.prog 13 #[.agg #[.int .i64 n, v], .int .i64 k] w (Post w No (Just (.bool b))) := hb ▸ Light_ok n v m k w hs hk

theorem LevelsOf_ok (n : Int) (v : Value) (es : List E) (w : World) (hs : Shp v es.length) (hr : RO w No v (esV es)) :
    Calls Try.prog 3 #[.agg #[.int .i64 n, v]] w (Post w No (Just (.bool true))) := by
  refine enter0 (vs := [_]) Try.func3 rfl Try.ntmps3 rfl ?_
  repeat' first
    | refine k_then ?_
    | refine c_seq ?_
    | refine c_region ?_
    | refine s_nil ?_
    | refine s_assign (by exact rfl) (by exact rfl) ?_
    | refine s_ldk_box (by exact rfl) (by exact rfl) (by exact .head _) (by exact rfl) (by exact rfl) ?_
    | refine o_box (by exact rfl) (by exact rfl) (fun b => ?_)
  cases hl : (decide (n ≤ 40) && decide ((es.length : Int) ≤ 4 * 40))
  · refine s_call (by exact rfl) (by exact rfl) (fun w h => Light_b n v es.length 40 false w hl hs (by omega)) ?_
    repeat' first
      | refine k_then ?_
      | refine c_seq ?_
      | refine c_region ?_
      | refine s_nil ?_
      | refine s_not (by exact rfl) (by exact rfl) ?_
      | refine c_cond_t (by exact rfl) ?_
    refine s_call (vs := []) (by exact rfl) (by exact rfl) (fun w h => alive_ok w) ?_
    repeat' first
      | refine k_then ?_
      | refine s_nil ?_
      | refine s_assign (by exact rfl) (by exact rfl) ?_
      | refine c_ret ?_
      | refine k_then_ret ?_
    refine ret1 [] rfl rfl rfl ⟨rfl, rfl⟩
  · refine s_call (by exact rfl) (by exact rfl) (fun w h => Light_b n v es.length 40 true w hl hs (by omega)) ?_
    have hn : n ≤ 40 ∧ (es.length : Int) ≤ 160 := by simpa using hl
    repeat' first
      | refine k_then ?_
      | refine c_seq ?_
      | refine c_region ?_
      | refine s_nil ?_
      | refine s_not (by exact rfl) (by exact rfl) ?_
      | refine s_ldk_box (by exact rfl) (by exact rfl) (by exact .head _) (by exact rfl) (by exact rfl) ?_
      | refine c_skip ?_
      | refine c_cond_f (by exact rfl) ?_
    by_cases hR0 : rightK n es = 0
    · have hR := right_iff.1 hR0
      refine o_call (by exact rfl) (by exact rfl) (fun w h => levOf_ok n v es w hs (ro_old h hr) hR) ?_
      rintro _ _ ⟨out, lab, vl, rfl, rfl, hol, hLev0⟩
      have hLev := hLev0.nb_of
      refine know_row (v := vl) (.head _) fun hvl _ => ?_
      repeat' first
        | refine k_then ?_
        | refine c_seq ?_
        | refine c_region ?_
        | refine s_nil ?_
        | refine s_move (by exact rfl) (by exact rfl) ?_
        | refine s_assign (by exact rfl) (by exact rfl) ?_
        | refine s_extract (by exact rfl) (by exact rfl) (by exact rfl) ?_
        | refine s_ldk_box (by exact rfl) (by exact rfl) (by exact .tail _ (.head _)) (by exact rfl) (by exact rfl) ?_
      refine s_call (by exact rfl) (by exact rfl) (fun w h => refRight_ok n v es w hs (ro_old h hr) (by omega)) ?_
      rw [hR0]
      repeat' first
        | refine k_then ?_
        | refine c_seq ?_
        | refine c_region ?_
        | refine s_nil ?_
        | refine s_move (by exact rfl) (by exact rfl) ?_
        | refine s_eql (by exact rfl) (by exact rfl) (by exact rfl) ?_
        | refine s_neq (by exact rfl) (by exact rfl) (by exact rfl) ?_
        | refine c_skip ?_
        | (refine c_cond_p (by exact rfl) (fun h => ?_) (fun h => ?_) <;> try (exfalso; omega))
        | (refine g_case (by exact rfl) (by exact rfl) (fun h => ?_) (fun h => ?_) <;> try (exfalso; omega))
        | refine w_move (by exact rfl) (by exact rfl) (by exact rfl) (by exact rfl) ?_
        | refine w_ldk_box (by exact rfl) (by exact rfl) (by exact rfl) (by exact rfl) (by exact .tail _ (.head _)) (by exact rfl) (by exact rfl) ?_
        | refine g_on (by exact rfl) (by exact rfl) ?_
      refine o_call (by exact rfl) (by exact rfl) (fun w h => refOf_ok n v es _ lab w hs (ro_old h hr) hR hLev) ?_
      rintro vr _ rfl
      refine know_row (v := vr) (.head _) fun hvr _ => ?_
      rw [← list_map_getD hol fun v _ => rfl]
      repeat' first
        | refine g_on (by exact rfl) (by exact rfl) ?_
      refine s_call (by exact rfl) (by exact rfl) (fun w h => IntsN_t vl vr out out w rfl (hol ▸ hvl) (hol ▸ hvr) (ro_own h (.tail _ (.head _))) (ro_own h (.head _))) ?_
      repeat' first
        | refine s_move (by exact rfl) (by exact rfl) ?_
        | refine s_pick_t (by exact rfl) (by exact rfl) (by exact rfl) ?_
        | refine g_on (by exact rfl) (by exact rfl) ?_
      refine s_call (vs := []) (by exact rfl) (by exact rfl) (fun w h => alive_ok w) ?_
      repeat' first
        | refine k_then ?_
        | refine s_nil ?_
        | refine s_assign (by exact rfl) (by exact rfl) ?_
        | refine s_pick_t (by exact rfl) (by exact rfl) (by exact rfl) ?_
        | refine c_ret ?_
      refine ret1 [] rfl rfl rfl ⟨rfl, rfl⟩
    · have hnil : Shp (.slice none 0 0) 0 := ⟨by simp [maxLen], .inl ⟨rfl, rfl⟩⟩
      refine s_call (by exact rfl) (by exact rfl) (fun w h => levOf_no n v es w hs (ro_old h hr) (by omega) hR0) ?_
      repeat' first
        | refine k_then ?_
        | refine c_seq ?_
        | refine c_region ?_
        | refine s_nil ?_
        | refine s_move (by exact rfl) (by exact rfl) ?_
        | refine s_assign (by exact rfl) (by exact rfl) ?_
        | refine s_extract (by exact rfl) (by exact rfl) (by exact rfl) ?_
        | refine s_ldk_box (by exact rfl) (by exact rfl) (by exact .head _) (by exact rfl) (by exact rfl) ?_
      refine s_call (by exact rfl) (by exact rfl) (fun w h => refRight_ok n v es w hs (ro_old h hr) (by omega)) ?_
      repeat' first
        | refine k_then ?_
        | refine c_seq ?_
        | refine c_region ?_
        | refine s_nil ?_
        | refine s_move (by exact rfl) (by exact rfl) ?_
        | refine s_eql (by exact rfl) (by exact rfl) (by exact rfl) ?_
        | refine s_neq (by exact rfl) (by exact rfl) (by exact rfl) ?_
        | refine s_pick_t (by exact rfl) (by exact rfl) (by exact rfl) ?_
        | (refine c_cond_p (by exact rfl) (fun h => ?_) (fun h => ?_) <;> try (exfalso; omega))
        | (refine g_case (by exact rfl) (by exact rfl) (fun h => ?_) (fun h => ?_) <;> try (exfalso; omega))
        | refine w_move (by exact rfl) (by exact rfl) (by exact rfl) (by exact rfl) ?_
        | refine w_eql (by exact rfl) (by exact rfl) (by exact rfl) (by exact rfl) (by exact rfl) ?_
        | refine w_len (by exact rfl) (by exact rfl) (by exact rfl) (by exact rfl) (by assumption) ?_
        | refine g_on (by exact rfl) (by exact rfl) ?_
      refine s_call (vs := []) (by exact rfl) (by exact rfl) (fun w h => alive_ok w) ?_
      repeat' first
        | refine k_then ?_
        | refine s_nil ?_
        | refine s_assign (by exact rfl) (by exact rfl) ?_
        | refine s_pick_t (by exact rfl) (by exact rfl) (by exact rfl) ?_
        | refine c_ret ?_
        | refine k_then_ret ?_
      refine ret1 [] rfl rfl rfl ⟨rfl, rfl⟩
end Go.Proofs.Ytkekpgkacjpjnaa
