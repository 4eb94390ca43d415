/- The law of levels' Kept and Pieces: for every graph, k and shift it answers true. -/
import Derived.Test.YtkekpgkacjpjnaaLaw18a
import Derived.Test.YtkekpgkacjpjnaaLevNo
import Derived.Test.YtkekpgkacjpjnaaTy2
namespace Go.Proofs.Ytkekpgkacjpjnaa
open Go.RowKit Go.Sl Fil
set_option maxRecDepth 100000
set_option maxHeartbeats 8000000
set_option linter.unusedVariables false
set_option linter.unusedSimpArgs false
attribute [local irreducible] Code.wp wpList bodyPost wpQuiet Exit.then Exit.inBlock Post wpAnyH wpOp
theorem LevelsPieces_ok (n : Int) (v : Value) (es : List E) (k s : Int) (w : World) (hs : Shp v es.length) (hr : RO w No v (esV es)) :
    Calls Try.prog 4 #[.agg #[.int .i64 n, v], .int .i64 k, .int .i64 s] w (Post w No (Just (.bool true))) := by
  refine enter0 (vs := [_, _, _]) Try.func4 rfl Try.ntmps4 rfl ?_
  repeat' first
    | refine k_then ?_
    | refine c_seq ?_
    | refine c_region ?_
    | refine s_nil ?_
    | refine s_assign (by exact rfl) (by exact rfl) ?_
    | refine s_ldk_box (by exact rfl) (by exact rfl) (by exact .head _) (by exact rfl) (by exact rfl) ?_
    | refine o_box (by exact rfl) (by exact rfl) (fun b => ?_)
  cases hl : (decide (n ≤ 30) && decide ((es.length : Int) ≤ 4 * 30))
  · refine s_call (by exact rfl) (by exact rfl) (fun w h => Light_b n v es.length 30 false w hl hs (by omega)) ?_
    repeat' first
      | refine k_then ?_
      | refine c_seq ?_
      | refine c_region ?_
      | refine s_nil ?_
      | refine s_not (by exact rfl) (by exact rfl) ?_
      | refine c_cond_t (by exact rfl) ?_
    refine s_call (vs := []) (by exact rfl) (by exact rfl) (fun w h => alive_ok w) ?_
    repeat' first
      | refine k_then ?_
      | refine s_nil ?_
      | refine s_assign (by exact rfl) (by exact rfl) ?_
      | refine c_ret ?_
      | refine k_then_ret ?_
    refine ret1 [] rfl rfl rfl ⟨rfl, rfl⟩
  · refine s_call (by exact rfl) (by exact rfl) (fun w h => Light_b n v es.length 30 true w hl hs (by omega)) ?_
    have hn : n ≤ 30 ∧ (es.length : Int) ≤ 120 := by simpa using hl
    repeat' first
      | refine k_then ?_
      | refine c_seq ?_
      | refine c_region ?_
      | refine s_nil ?_
      | refine s_move (by exact rfl) (by exact rfl) ?_
      | refine s_not (by exact rfl) (by exact rfl) ?_
      | refine s_ldk_box (by exact rfl) (by exact rfl) (by exact .head _) (by exact rfl) (by exact rfl) ?_
      | refine c_skip ?_
      | refine c_cond_f (by exact rfl) ?_
    by_cases hA : askK n es k s = 0
    · obtain ⟨hR, hk⟩ := ask_zero hA
      have hlo := hR.lo
      refine o_call (by exact rfl) (by exact rfl) (fun w h => kept2_ok n v es k s w hs (ro_old h hr) hR hk) ?_
      rintro _ _ ⟨o, lab, vk, hLev, rfl, rfl⟩
      refine know_row (v := vk) (.head _) fun hvk _ => ?_
      repeat' first
        | refine k_then ?_
        | refine c_seq ?_
        | refine c_region ?_
        | refine s_nil ?_
        | refine s_move (by exact rfl) (by exact rfl) ?_
        | refine s_assign (by exact rfl) (by exact rfl) ?_
        | refine s_extract (by exact rfl) (by exact rfl) (by exact rfl) ?_
        | refine s_ldk_box (by exact rfl) (by exact rfl) (by exact .tail _ (.head _)) (by exact rfl) (by exact rfl) ?_
      refine o_call (by exact rfl) (by exact rfl) (fun w h => Pieces_ok n v es k s o lab w hs (ro_old h hr) hR hLev hk) ?_
      rintro _ _ ⟨o', lab', vp, hp, hLev', rfl, hpl, rfl⟩
      refine know_row (v := vp) (.head _) fun hvp _ => ?_
      repeat' first
        | refine k_then ?_
        | refine c_seq ?_
        | refine c_region ?_
        | refine s_nil ?_
        | refine s_move (by exact rfl) (by exact rfl) ?_
        | refine s_assign (by exact rfl) (by exact rfl) ?_
        | refine s_extract (by exact rfl) (by exact rfl) (by exact rfl) ?_
        | refine s_ldk_box (by exact rfl) (by exact rfl) (by exact .tail _ (.tail _ (.tail _ (.head _)))) (by exact rfl) (by exact rfl) ?_
      refine s_call (by exact rfl) (by exact rfl) (fun w h => Asked_ok n v es k s w hs (ro_old h hr) (by omega)) ?_
      rw [hA]
      repeat' first
        | refine k_then ?_
        | refine c_seq ?_
        | refine c_region ?_
        | refine s_nil ?_
        | refine s_move (by exact rfl) (by exact rfl) ?_
        | refine s_assign (by exact rfl) (by exact rfl) ?_
        | refine s_neq (by exact rfl) (by exact rfl) (by exact rfl) ?_
        | refine s_ldk_box (by exact rfl) (by exact rfl) (by exact .tail _ (.tail _ (.tail _ (.head _)))) (by exact rfl) (by exact rfl) ?_
        | refine c_skip ?_
        | (refine c_cond_p (by exact rfl) (fun h => ?_) (fun h => ?_) <;> try (exfalso; omega))
      refine o_call (by exact rfl) (by exact rfl) (fun w h => refKept_ok n v es k s o lab w hs (ro_old h hr) hR hLev hk) ?_
      rintro vq _ rfl
      refine know_row (v := vq) (.head _) fun hvq _ => ?_
      have hkl : (keptL n.toNat k.toNat s.toNat o).length = n.toNat := by simp [keptL]
      generalize hkd : keptL n.toNat k.toNat s.toNat o = kept at *
      generalize hcd : selL kept (compsS n.toNat lab') = cs at *
      repeat' first
        | refine k_then ?_
        | refine c_seq ?_
        | refine c_region ?_
        | refine s_nil ?_
        | refine s_move (by exact rfl) (by exact rfl) ?_
        | refine s_assign (by exact rfl) (by exact rfl) ?_
        | refine s_neq (by exact rfl) (by exact rfl) (by exact rfl) ?_
        | refine s_pick_f (by exact rfl) (by exact rfl) (by exact rfl) ?_
        | refine c_block ?_
        | refine c_skip ?_
        | (refine c_cond_p (by exact rfl) (fun h => ?_) (fun h => ?_) <;> try (exfalso; omega))
        | (refine g_case (by exact rfl) (by exact rfl) (fun h => ?_) (fun h => ?_) <;> try (exfalso; omega))
        | refine w_move (by exact rfl) (by exact rfl) (by exact rfl) (by exact rfl) ?_
        | refine w_neq (by exact rfl) (by exact rfl) (by exact rfl) (by exact rfl) (by exact rfl) ?_
        | refine w_len (by exact rfl) (by exact rfl) (by exact rfl) (by exact rfl) (by assumption) ?_
      refine c_loop (fun i : Nat => i ≤ n.toNat) (fun i => [(1, .int .i64 k), (2, .int .i64 s), (3, .pointer (some ⟨b, 0, none⟩)), (7, vk), (9, vp), (12, vq), (13, .int .i64 (i : Int))]) (fun _ => [rowHP vq 4 1 n.toNat (bV kept), rowHP vp 27 1 cs.length hp, starHP (kids rowN hp cs), rowHP vk 4 1 n.toNat (bV kept), boxHP b 24 [.int .i64 n, v]]) (fun i => n.toNat - i) 0 [0, 0, 0, 0, 0] (Nat.zero_le _) (by exact rfl) ⟨rfl, rfl, rfl, rfl, rfl, rfl, rfl, trivial⟩ ?_
      intro i hi
      by_cases hil : i < n.toNat
      · have hki := bV_get (l := kept) (k := i) (by omega)
        repeat' first
          | refine k_then ?_
          | refine c_seq ?_
          | refine c_region ?_
          | refine s_nil ?_
          | refine s_move (by exact rfl) (by exact rfl) ?_
          | refine s_lss (by exact rfl) (by exact rfl) (by exact rfl) ?_
          | refine s_len (by exact rfl) (by exact rfl) (by assumption) ?_
          | refine c_block ?_
          | refine c_skip ?_
          | (refine c_cond_p (by exact rfl) (fun h => ?_) (fun h => ?_) <;> try (exfalso; omega))
        refine p_begin0 [(0, true), (1, true), (2, true), (3, true), (4, true), (5, true), (6, true), (7, true), (8, true)] (by kernel_rfl) ?_
        repeat' first
          | refine p_nil ?_
          | (refine p_at (by exact rfl) ?_
             first
              | refine t_move (by exact rfl) (by exact rfl) (by exact fun _ h => h) ?_
              | refine t_neqb (by exact rfl) (by exact rfl) (by exact rfl) (by exact fun _ h => h) ?_
              | refine t_idx (by exact rfl) (by exact rfl) (by exact rfl) (by assumption) (by first | assumption | omega) (by exact fun _ h => h) ?_
              | refine t_ld_row (by exact rfl) (by exact rfl) (by first | exact .head _ | exact .tail _ (.tail _ (.tail _ (.head _)))) (by assumption) (by exact fun _ h => h) ?_)
        repeat' first
          | refine k_then ?_
          | refine c_seq ?_
          | refine c_region ?_
          | refine s_nil ?_
          | refine s_move (by exact rfl) (by exact rfl) ?_
          | refine s_assign (by exact rfl) (by exact rfl) ?_
          | refine s_add (by exact rfl) (by exact rfl) (by exact rfl) (by omega) ?_
          | refine c_skip ?_
          | refine c_ret ?_
          | refine k_then_ret ?_
          | refine k_blk ?_
          | refine k_blk_ret ?_
          | (refine c_cond_p (by exact rfl) (fun h => ?_) (fun h => ?_) <;> try (exfalso; omega))
        · exact absurd rfl ‹_ ≠ _›
        · refine c_round (i + 1) [0, 0, 0, 0, 0] (by exact rfl) (by exact ⟨rfl, rfl, rfl, rfl, rfl, rfl, rfl, trivial⟩) (by omega) (by omega)
      · repeat' first
          | refine k_then ?_
          | refine c_seq ?_
          | refine c_region ?_
          | refine s_nil ?_
          | refine s_move (by exact rfl) (by exact rfl) ?_
          | refine s_lss (by exact rfl) (by exact rfl) (by exact rfl) ?_
          | refine s_len (by exact rfl) (by exact rfl) (by assumption) ?_
          | refine s_ldk_box (by exact rfl) (by exact rfl) (by exact .tail _ (.tail _ (.tail _ (.tail _ (.head _))))) (by exact rfl) (by exact rfl) ?_
          | refine c_exit ?_
          | refine k_then_exit ?_
          | refine k_blk_eq ?_
          | (refine c_cond_p (by exact rfl) (fun h => ?_) (fun h => ?_) <;> try (exfalso; omega))
        subst hkd
        refine o_call (by exact rfl) (by exact rfl) (fun w h => refPieces_ok n v es k s o lab o' lab' w hs (ro_old h hr) hR hLev hk hLev') ?_
        rintro vr _ ⟨hq, hql, rfl⟩
        rw [hcd] at hql ⊢
        skip
        refine s_call (by exact rfl) (by exact rfl) (fun w h => Lists_ok vp vr hp hq cs cs w (ros_own h (.tail _ (.tail _ (.tail _ (.head _)))) rfl (.tail _ (.tail _ (.tail _ (.tail _ (.head _)))))) (ros_own h (.head _) rfl (.tail _ (.head _)))) ?_
        rw [decide_eq_true rfl]
        repeat' first
          | refine s_move (by exact rfl) (by exact rfl) ?_
          | refine g_on (by exact rfl) (by exact rfl) ?_
        refine s_call (vs := []) (by exact rfl) (by exact rfl) (fun w h => alive_ok w) ?_
        repeat' first
          | refine k_then ?_
          | refine s_nil ?_
          | refine s_assign (by exact rfl) (by exact rfl) ?_
          | refine s_pick_t (by exact rfl) (by exact rfl) (by exact rfl) ?_
          | refine c_ret ?_
        refine ret1 [] rfl rfl rfl ⟨rfl, rfl⟩
    · have hnil : Shp (.slice none 0 0) 0 := ⟨by simp [maxLen], .inl ⟨rfl, rfl⟩⟩
      refine s_call (by exact rfl) (by exact rfl) (fun w h => keptNo_ok n v es k s w hs (ro_old h hr) (by omega) hA) ?_
      repeat' first
        | refine k_then ?_
        | refine c_seq ?_
        | refine c_region ?_
        | refine s_nil ?_
        | refine s_move (by exact rfl) (by exact rfl) ?_
        | refine s_assign (by exact rfl) (by exact rfl) ?_
        | refine s_extract (by exact rfl) (by exact rfl) (by exact rfl) ?_
        | refine s_ldk_box (by exact rfl) (by exact rfl) (by exact .head _) (by exact rfl) (by exact rfl) ?_
      refine s_call (by exact rfl) (by exact rfl) (fun w h => piecesNo_ok n v es k s w hs (ro_old h hr) (by omega) hA) ?_
      repeat' first
        | refine k_then ?_
        | refine c_seq ?_
        | refine c_region ?_
        | refine s_nil ?_
        | refine s_move (by exact rfl) (by exact rfl) ?_
        | refine s_assign (by exact rfl) (by exact rfl) ?_
        | refine s_extract (by exact rfl) (by exact rfl) (by exact rfl) ?_
        | refine s_ldk_box (by exact rfl) (by exact rfl) (by exact .head _) (by exact rfl) (by exact rfl) ?_
      refine s_call (by exact rfl) (by exact rfl) (fun w h => Asked_ok n v es k s w hs (ro_old h hr) (by omega)) ?_
      repeat' first
        | refine k_then ?_
        | refine c_seq ?_
        | refine c_region ?_
        | refine s_nil ?_
        | refine s_move (by exact rfl) (by exact rfl) ?_
        | refine s_assign (by exact rfl) (by exact rfl) ?_
        | refine s_eql (by exact rfl) (by exact rfl) (by exact rfl) ?_
        | refine s_neq (by exact rfl) (by exact rfl) (by exact rfl) ?_
        | refine s_pick_t (by exact rfl) (by exact rfl) (by exact rfl) ?_
        | (refine c_cond_p (by exact rfl) (fun h => ?_) (fun h => ?_) <;> try (exfalso; omega))
        | (refine g_case (by exact rfl) (by exact rfl) (fun h => ?_) (fun h => ?_) <;> try (exfalso; omega))
        | refine w_move (by exact rfl) (by exact rfl) (by exact rfl) (by exact rfl) ?_
        | refine w_eql (by exact rfl) (by exact rfl) (by exact rfl) (by exact rfl) (by exact rfl) ?_
        | refine w_add (by exact rfl) (by exact rfl) (by exact rfl) (by exact rfl) (by exact rfl) (by omega) ?_
        | refine w_len (by exact rfl) (by exact rfl) (by exact rfl) (by exact rfl) (by assumption) ?_
        | refine g_on (by exact rfl) (by exact rfl) ?_
      refine s_call (vs := []) (by exact rfl) (by exact rfl) (fun w h => alive_ok w) ?_
      repeat' first
        | refine k_then ?_
        | refine s_nil ?_
        | refine s_assign (by exact rfl) (by exact rfl) ?_
        | refine s_pick_t (by exact rfl) (by exact rfl) (by exact rfl) ?_
        | refine c_ret ?_
        | refine k_then_ret ?_
      refine ret1 [] rfl rfl rfl ⟨rfl, rfl⟩
end Go.Proofs.Ytkekpgkacjpjnaa
