/- The document's answer for graph: the edges between vertices that are kept. -/
import Derived.Test.YtkekpgkacjpjnaaOnly
namespace Go.Proofs.Ytkekpgkacjpjnaa
open Go.RowKit Go.Sl Fil
set_option maxRecDepth 100000
set_option maxHeartbeats 8000000
set_option linter.unusedVariables false
set_option linter.unusedSimpArgs false
attribute [local irreducible] Code.wp wpList bodyPost wpQuiet Exit.then Exit.inBlock Post wpAnyH wpOp
theorem refOnly_ok (n : Int) (v : Value) (es : List E) (vk : Value) (keep : List Bool) (w : World) (hs : Shp v es.length) (hr : RO w No v (esV es)) (hR : RightG n es) (hks : Shp vk keep.length) (hkr : RO w No vk (bV keep)) (hkl : keep.length = n.toNat) :
    Calls Try.prog 47 #[.agg #[.int .i64 n, v], vk] w (Post w No fun r L' => ∃ vo, r = .agg #[.int .i64 n, vo] ∧ L' = [rowHP vo 47 3 (es.filter (keepE keep)).length (esV (es.filter (keepE keep)))]) := by
  have hlo := hR.lo
  have hm : es.length < 4611686018427387904 := by have := hR.many; omega
  refine enter0 (vs := [_, _]) Try.func47 rfl Try.ntmps47 rfl ?_
  repeat' first
    | refine k_then ?_
    | refine c_seq ?_
    | refine c_region ?_
    | refine s_nil ?_
    | refine s_fa (by exact rfl) (by exact rfl) ?_
    | refine s_ld_box (by exact rfl) (by exact rfl) (by exact .tail _ (.head _)) (by exact rfl) ?_
    | refine o_box (by exact rfl) (by exact rfl) (fun b => ?_)
    | refine o_alloc (by exact rfl) (fun b => ?_)
  refine o_build [(0, .int .i64 n, [.int .i64 n])] (by exact rfl) (by exact rfl) (by simp [Value.cells]) (by exact rfl) ?_
  repeat' first
    | refine o_alloc (by exact rfl) (fun b => ?_)
  refine o_stk_box (i := 0) (us := [.int .i64 n, .slice none 0 0]) (by exact rfl) (by exact rfl) (by exact rfl) (by exact rfl) (by exact rfl) (by simp [Value.oneCell']) (by simp [Value.cells]) ?_
  repeat' first
    | refine k_then ?_
    | refine c_seq ?_
    | refine c_region ?_
    | refine s_nil ?_
    | refine s_assign (by exact rfl) (by exact rfl) ?_
    | refine c_block ?_
  rename_i bg b1
  refine c_nil 47 3 ?_
  refine c_loop (fun x : Nat × Value => x.1 ≤ es.length) (fun x => [(1, vk), (2, .pointer (some ⟨bg, 0, none⟩)), (4, .pointer (some ⟨b1, 0, none⟩)), (5, .pointer (some ⟨b, 0, none⟩)), (6, .int .i64 (x.1 : Int))])
    (fun x => [rowHP x.2 47 3 ((es.take x.1).filter (keepE keep)).length (esV ((es.take x.1).filter (keepE keep))), boxHP b 24 [.int .i64 n, x.2], boxHP b1 24 [.int .i64 0, .slice none 0 0], boxHP bg 24 [.int .i64 n, v]]) (fun x => es.length - x.1) (0, .slice none 0 0) [0, 0, 0, 0] (Nat.zero_le _) (by exact rfl) ⟨rfl, rfl, rfl, rfl, rfl, trivial⟩ ?_
  rintro ⟨k, vx⟩ hk
  dsimp only at hk ⊢
  refine know_row (v := vx) (.head _) fun hvx _ => ?_
  by_cases hlt : k < es.length
  · obtain ⟨e, he⟩ : ∃ e, es[k]? = some e := ⟨_, List.getElem?_eq_getElem hlt⟩
    obtain ⟨q1, q2, q3, -, -⟩ := hR.ok e (List.mem_of_getElem? he)
    have hE := esV_at he
    have hcnt : ((es.take k).filter (keepE keep)).length ≤ 4194304 := by
      have h1 := List.length_filter_le (keepE keep) (es.take k)
      have h2 := hR.many
      rw [List.length_take] at h1
      omega
    have htk : (es.take (k + 1)).filter (keepE keep) = (es.take k).filter (keepE keep) ++ (if keepE keep e then [e] else []) := by
      rw [List.take_add_one, he, List.filter_append]
      simp [List.filter_cons]
    have hku := bV_get (l := keep) (k := e.1.toNat) (by omega)
    have hkv := bV_get (l := keep) (k := e.2.1.toNat) (by omega)
    repeat' first
      | refine k_then ?_
      | refine c_seq ?_
      | refine c_region ?_
      | refine s_nil ?_
      | refine s_move (by exact rfl) (by exact rfl) ?_
      | refine s_fa (by exact rfl) (by exact rfl) ?_
      | refine s_ld_box (by exact rfl) (by exact rfl) (by exact .tail _ (.tail _ (.tail _ (.head _)))) (by exact rfl) ?_
      | refine s_lss (by exact rfl) (by exact rfl) (by exact rfl) ?_
      | refine s_len (by exact rfl) (by exact rfl) (by assumption) ?_
      | refine s_idx (by exact rfl) (by exact rfl) (by exact rfl) (by assumption) (by first | assumption | omega) ?_
      | refine s_ldk_ro (by exact rfl) (by exact rfl) (by assumption) (by decide) (by assumption) (by exact rfl) ?_
      | refine o_alloc (by exact rfl) (fun b => ?_)
      | refine c_block ?_
      | refine c_skip ?_
      | (refine c_cond_p (by exact rfl) (fun h => ?_) (fun h => ?_) <;> try (exfalso; omega))
    refine o_stk_box (i := 0) (us := eV e) (by exact rfl) (by exact rfl) (by exact rfl) (by exact rfl) (by exact rfl) (by simp [eV, Value.oneCell']) (by simp [Value.cells]) ?_
    cases hb1 : keep.getD e.1.toNat false
    · rw [hb1] at hku
      rw [show keepE keep e = false from by simp only [keepE, hb1, Bool.false_and], if_neg (by simp), List.append_nil] at htk
      repeat' first
        | refine k_then ?_
        | refine c_seq ?_
        | refine c_region ?_
        | refine s_nil ?_
        | refine s_move (by exact rfl) (by exact rfl) ?_
        | refine s_assign (by exact rfl) (by exact rfl) ?_
        | refine s_fa (by exact rfl) (by exact rfl) ?_
        | refine s_ld_box (by exact rfl) (by exact rfl) (by exact .head _) (by exact rfl) ?_
        | refine s_lss (by exact rfl) (by exact rfl) (by exact rfl) ?_
        | refine s_add (by exact rfl) (by exact rfl) (by exact rfl) (by omega) ?_
        | refine s_len (by exact rfl) (by exact rfl) (by assumption) ?_
        | refine s_pick_t (by exact rfl) (by exact rfl) (by exact rfl) ?_
        | refine s_pick_f (by exact rfl) (by exact rfl) (by exact rfl) ?_
        | refine c_skip ?_
        | refine k_blk ?_
        | refine c_cond_f (by exact rfl) ?_
        | (refine g_case (by exact rfl) (by exact rfl) (fun h => ?_) (fun h => ?_) <;> try (exfalso; omega))
        | refine g_skip (by exact rfl) (by exact rfl) (by exact rfl) (by exact rfl) ?_
        | refine w_move (by exact rfl) (by exact rfl) (by exact rfl) (by exact rfl) ?_
        | refine w_fa (by exact rfl) (by exact rfl) (by exact rfl) (by exact rfl) ?_
        | refine w_ld_box (by exact rfl) (by exact rfl) (by exact rfl) (by exact rfl) (by exact .head _) (by exact rfl) ?_
        | refine w_idxi (by exact rfl) (by exact rfl) (by exact rfl) (by exact rfl) (by exact rfl) (by assumption) (by first | assumption | omega) ?_
        | refine w_ld_ro (by exact rfl) (by exact rfl) (by exact rfl) (by exact rfl) (by assumption) (by assumption) ?_
      refine c_round (k + 1, vx) [1, 1, 1, 1] (by dsimp only; rw [htk]; rfl) (by exact ⟨rfl, rfl, rfl, rfl, rfl, trivial⟩) (by dsimp only; omega) (by dsimp only; omega)
    · rw [hb1] at hku
      cases hb2 : keep.getD e.2.1.toNat false
      · rw [hb2] at hkv
        rw [show keepE keep e = false from by simp only [keepE, hb1, hb2, Bool.true_and], if_neg (by simp), List.append_nil] at htk
        repeat' first
          | refine k_then ?_
          | refine c_seq ?_
          | refine c_region ?_
          | refine s_nil ?_
          | refine s_move (by exact rfl) (by exact rfl) ?_
          | refine s_assign (by exact rfl) (by exact rfl) ?_
          | refine s_fa (by exact rfl) (by exact rfl) ?_
          | refine s_ld_box (by exact rfl) (by exact rfl) (by exact .head _) (by exact rfl) ?_
          | refine s_lss (by exact rfl) (by exact rfl) (by exact rfl) ?_
          | refine s_add (by exact rfl) (by exact rfl) (by exact rfl) (by omega) ?_
          | refine s_len (by exact rfl) (by exact rfl) (by assumption) ?_
          | refine s_pick_t (by exact rfl) (by exact rfl) (by exact rfl) ?_
          | refine c_skip ?_
          | refine k_blk ?_
          | refine c_cond_f (by exact rfl) ?_
          | (refine g_case (by exact rfl) (by exact rfl) (fun h => ?_) (fun h => ?_) <;> try (exfalso; omega))
          | refine w_move (by exact rfl) (by exact rfl) (by exact rfl) (by exact rfl) ?_
          | refine w_fa (by exact rfl) (by exact rfl) (by exact rfl) (by exact rfl) ?_
          | refine w_ld_box (by exact rfl) (by exact rfl) (by exact rfl) (by exact rfl) (by exact .head _) (by exact rfl) ?_
          | refine w_lss (by exact rfl) (by exact rfl) (by exact rfl) (by exact rfl) (by exact rfl) ?_
          | refine w_len (by exact rfl) (by exact rfl) (by exact rfl) (by exact rfl) (by assumption) ?_
          | refine w_idxi (by exact rfl) (by exact rfl) (by exact rfl) (by exact rfl) (by exact rfl) (by assumption) (by first | assumption | omega) ?_
          | refine w_ld_ro (by exact rfl) (by exact rfl) (by exact rfl) (by exact rfl) (by assumption) (by assumption) ?_
        refine c_round (k + 1, vx) [1, 1, 1, 1] (by dsimp only; rw [htk]; rfl) (by exact ⟨rfl, rfl, rfl, rfl, rfl, trivial⟩) (by dsimp only; omega) (by dsimp only; omega)
      · rw [hb2] at hkv
        rw [show keepE keep e = true from by simp only [keepE, hb1, hb2, Bool.true_and], if_pos rfl] at htk
        repeat' first
          | refine k_then ?_
          | refine c_seq ?_
          | refine c_region ?_
          | refine s_nil ?_
          | refine s_move (by exact rfl) (by exact rfl) ?_
          | refine s_fa (by exact rfl) (by exact rfl) ?_
          | refine s_ld_box (by exact rfl) (by exact rfl) (by first | exact .head _ | exact .tail _ (.tail _ (.head _))) (by exact rfl) ?_
          | refine s_lss (by exact rfl) (by exact rfl) (by exact rfl) ?_
          | refine s_len (by exact rfl) (by exact rfl) (by assumption) ?_
          | refine s_pick_t (by exact rfl) (by exact rfl) (by exact rfl) ?_
          | refine s_ldk_box (by exact rfl) (by exact rfl) (by exact .head _) (by exact rfl) (by exact rfl) ?_
          | refine c_cond_t (by exact rfl) ?_
          | (refine g_case (by exact rfl) (by exact rfl) (fun h => ?_) (fun h => ?_) <;> try (exfalso; omega))
          | refine w_move (by exact rfl) (by exact rfl) (by exact rfl) (by exact rfl) ?_
          | refine w_fa (by exact rfl) (by exact rfl) (by exact rfl) (by exact rfl) ?_
          | refine w_ld_box (by exact rfl) (by exact rfl) (by exact rfl) (by exact rfl) (by exact .head _) (by exact rfl) ?_
          | refine w_lss (by exact rfl) (by exact rfl) (by exact rfl) (by exact rfl) (by exact rfl) ?_
          | refine w_len (by exact rfl) (by exact rfl) (by exact rfl) (by exact rfl) (by assumption) ?_
          | refine w_idxi (by exact rfl) (by exact rfl) (by exact rfl) (by exact rfl) (by exact rfl) (by assumption) (by first | assumption | omega) ?_
          | refine w_ld_ro (by exact rfl) (by exact rfl) (by exact rfl) (by exact rfl) (by assumption) (by assumption) ?_
        refine o_mk [.agg (eV e).toArray] (by exact rfl) (by exact rfl) rfl ?_ ?_ (by simp) fun vt hvt => ?_
        · simp [Value.cells, eV]
        · simp
        skip
        refine o_append_row (i := 2) (by exact rfl) (by exact rfl) (by exact rfl) (by exact rfl) (by exact .head _) (by simp [Value.cells, eV]) (by simp [Value.cells, eV, Value.oneCell']) ?_ fun vy hvy => ?_
        · omega
        repeat' first
          | refine s_fa (by exact rfl) (by exact rfl) ?_
        refine o_st_box (i := 3) (by exact rfl) (by exact rfl) (by exact rfl) hvy.one (by simp [Value.cells]) ?_
        repeat' first
          | refine k_then ?_
          | refine c_region ?_
          | refine s_nil ?_
          | refine s_move (by exact rfl) (by exact rfl) ?_
          | refine s_assign (by exact rfl) (by exact rfl) ?_
          | refine s_add (by exact rfl) (by exact rfl) (by exact rfl) (by omega) ?_
          | refine k_blk ?_
        refine c_round (k + 1, vy) [2, 2, 2, 2] ?_ (by exact ⟨rfl, rfl, rfl, rfl, rfl, trivial⟩) (by dsimp only; omega) (by dsimp only; omega)
        dsimp only
        rw [htk, esV_snoc, List.length_append]
        rfl
  · repeat' first
      | refine k_then ?_
      | refine c_seq ?_
      | refine c_region ?_
      | refine s_nil ?_
      | refine s_move (by exact rfl) (by exact rfl) ?_
      | refine s_fa (by exact rfl) (by exact rfl) ?_
      | refine s_ld_box (by exact rfl) (by exact rfl) (by exact .tail _ (.tail _ (.tail _ (.head _)))) (by exact rfl) ?_
      | refine s_lss (by exact rfl) (by exact rfl) (by exact rfl) ?_
      | refine s_len (by exact rfl) (by exact rfl) (by assumption) ?_
      | refine s_ldk_box (by exact rfl) (by exact rfl) (by exact .tail _ (.head _)) (by exact rfl) (by exact rfl) ?_
      | refine c_exit ?_
      | refine k_then_exit ?_
      | refine k_blk_eq ?_
      | (refine c_cond_p (by exact rfl) (fun h => ?_) (fun h => ?_) <;> try (exfalso; omega))
    obtain rfl : k = es.length := by omega
    refine o_stk_box (i := 2) (us := [.int .i64 n, vx]) (by exact rfl) (by exact rfl) (by exact rfl) (by exact rfl) (by exact rfl) (by
      intro u hu
      simp only [List.mem_cons, List.not_mem_nil, or_false] at hu
      rcases hu with rfl | rfl
      · rfl
      · exact hvx.one) (by simp [Value.cells]) ?_
    repeat' first
      | refine k_then ?_
      | refine s_nil ?_
      | refine c_ret ?_
    refine retL [.cell 4 24] [.agg #[.int .i64 n, vx]] [0] rfl ⟨res_cellk (tb := 24) (cs := [.int .i64 n, vx]) rfl (.tail _ (.tail _ (.head _))) rfl rfl, trivial⟩ rfl ⟨vx, rfl, ?_⟩
    rw [List.take_length]
end Go.Proofs.Ytkekpgkacjpjnaa
