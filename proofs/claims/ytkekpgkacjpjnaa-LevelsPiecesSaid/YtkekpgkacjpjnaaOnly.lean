/- Package graph: the edges of which something is true; those between vertices that are kept. -/
import Derived.Test.YtkekpgkacjpjnaaKept
import Derived.Test.YtkekpgkacjpjnaaRef04
namespace Go.Proofs.Ytkekpgkacjpjnaa
open Go.RowKit Go.Sl Fil
set_option maxRecDepth 100000
set_option maxHeartbeats 8000000
set_option linter.unusedVariables false
set_option linter.unusedSimpArgs false
attribute [local irreducible] Code.wp wpList bodyPost wpQuiet Exit.then Exit.inBlock Post wpAnyH wpOp
theorem esV_snoc (l : List E) (e : E) : esV (l ++ [e]) = esV l ++ eV e := by simp [esV, List.flatMap_append]

theorem some_ok (n : Int) (v : Value) (es : List E) (f : FuncId) (caps : List Value) (p : E → Bool) (w : World) [FnTy Try.prog f] (hs : Shp v es.length) (hr : RO w No v (esV es)) (hR : RightG n es)
    (hcl : ∀ (k : Nat) e, es[k]? = some e → ∀ w' S', Mod w No w' S' → Calls Try.prog f ([Value.int .i64 (k : Int), Value.agg (eV e).toArray] ++ caps).toArray w' (Post w' No (Just (.bool (p e))))) :
    Calls Try.prog 67 #[.agg #[.int .i64 n, v], .func (.func f) #[] caps.toArray] w (Post w No fun r L' => ∃ vo, r = .agg #[.int .i64 n, vo] ∧ L' = [rowHP vo 47 3 (es.filter p).length (esV (es.filter p))]) := by
  have hR0 := right_iff.2 hR
  have hm : es.length < 4611686018427387904 := by have := hR.many; omega
  refine enter0 (vs := [_, _]) Try.func67 rfl Try.ntmps67 rfl ?_
  repeat' first
    | refine k_then ?_
    | refine c_seq ?_
    | refine c_region ?_
    | refine s_nil ?_
    | refine s_ldk_box (by exact rfl) (by exact rfl) (by exact .tail _ (.head _)) (by exact rfl) (by exact rfl) ?_
    | refine o_box (by exact rfl) (by exact rfl) (fun b => ?_)
    | refine o_alloc (by exact rfl) (fun b => ?_)
  refine s_call (by exact rfl) (by exact rfl) (fun w h => Right_ok n v es w hs (ro_old h hr) hm) ?_
  repeat' first
    | refine k_then ?_
    | refine c_seq ?_
    | refine c_region ?_
    | refine s_nil ?_
    | refine s_fa (by exact rfl) (by exact rfl) ?_
    | refine s_ld_box (by exact rfl) (by exact rfl) (by exact .tail _ (.head _)) (by exact rfl) ?_
    | refine s_neq (by exact rfl) (by exact rfl) (by exact rfl) ?_
    | refine c_skip ?_
    | (refine c_cond_p (by exact rfl) (fun h => ?_) (fun h => ?_) <;> try (exfalso; omega))
  refine o_build [(0, .int .i64 n, [.int .i64 n])] (by exact rfl) (by exact rfl) (by simp [Value.cells]) (by exact rfl) ?_
  repeat' first
    | refine o_alloc (by exact rfl) (fun b => ?_)
  refine o_stk_box (i := 0) (us := [.int .i64 n, .slice none 0 0]) (by exact rfl) (by exact rfl) (by exact rfl) (by exact rfl) (by exact rfl) (by simp [Value.oneCell']) (by simp [Value.cells]) ?_
  repeat' first
    | refine k_then ?_
    | refine c_seq ?_
    | refine c_region ?_
    | refine s_nil ?_
    | refine s_move (by exact rfl) (by exact rfl) ?_
    | refine s_fa (by exact rfl) (by exact rfl) ?_
    | refine s_ld_box (by exact rfl) (by exact rfl) (by exact .tail _ (.tail _ (.head _))) (by exact rfl) ?_
    | refine s_len (by exact rfl) (by exact rfl) (by assumption) ?_
    | refine c_block ?_
  rename_i bg b1
  refine c_nil 47 3 ?_
  refine c_loop (fun x : Nat × Value => x.1 ≤ es.length) (fun x => [(1, .func (.func f) #[] caps.toArray), (4, .pointer (some ⟨b1, 0, none⟩)), (5, .pointer (some ⟨b, 0, none⟩)), (16, v), (17, .int .i64 (es.length : Int)), (18, .int .i64 (x.1 : Int))])
    (fun x => [rowHP x.2 47 3 ((es.take x.1).filter p).length (esV ((es.take x.1).filter p)), boxHP b 24 [.int .i64 n, x.2], boxHP b1 24 [.int .i64 0, .slice none 0 0]]) (fun x => es.length - x.1) (0, .slice none 0 0) [0, 0, 0] (Nat.zero_le _) (by exact rfl) ⟨rfl, rfl, rfl, rfl, rfl, rfl, trivial⟩ ?_
  rintro ⟨k, vx⟩ hk
  dsimp only at hk ⊢
  refine know_row (v := vx) (.head _) fun hvx _ => ?_
  by_cases hlt : k < es.length
  · obtain ⟨e, he⟩ : ∃ e, es[k]? = some e := ⟨_, List.getElem?_eq_getElem hlt⟩
    have hE := esV_at he
    have hcnt : ((es.take k).filter p).length ≤ 4194304 := by
      have h1 := List.length_filter_le p (es.take k)
      have h2 := hR.many
      rw [List.length_take] at h1
      omega
    have htk : (es.take (k + 1)).filter p = (es.take k).filter p ++ (if p e then [e] else []) := by
      rw [List.take_add_one, he, List.filter_append]
      simp [List.filter_cons]
    repeat' first
      | refine k_then ?_
      | refine c_seq ?_
      | refine c_region ?_
      | refine s_nil ?_
      | refine s_move (by exact rfl) (by exact rfl) ?_
      | refine s_assign (by exact rfl) (by exact rfl) ?_
      | refine s_lss (by exact rfl) (by exact rfl) (by exact rfl) ?_
      | refine s_idx (by exact rfl) (by exact rfl) (by exact rfl) (by assumption) (by first | assumption | omega) ?_
      | refine s_ldk_ro (by exact rfl) (by exact rfl) (by assumption) (by decide) (by assumption) (by exact rfl) ?_
      | refine o_alloc (by exact rfl) (fun b => ?_)
      | refine c_block ?_
      | refine c_skip ?_
      | (refine c_cond_p (by exact rfl) (fun h => ?_) (fun h => ?_) <;> try (exfalso; omega))
    refine o_stk_box (i := 0) (us := eV e) (by exact rfl) (by exact rfl) (by exact rfl) (by exact rfl) (by exact rfl) (by simp [eV, Value.oneCell']) (by simp [Value.cells]) ?_
    repeat' first
      | refine k_then ?_
      | refine c_seq ?_
      | refine c_region ?_
      | refine s_nil ?_
      | refine s_move (by exact rfl) (by exact rfl) ?_
      | refine s_ldk_box (by exact rfl) (by exact rfl) (by exact .head _) (by exact rfl) (by exact rfl) ?_
    refine s_callv (pre := []) (by exact rfl) (by exact rfl) (by exact rfl) (fun w h => h.mod0.elim fun S' hm => hcl k e he w S' hm) ?_
    cases hp : p e
    · rw [hp, if_neg (by simp), List.append_nil] at htk
      repeat' first
        | refine k_then ?_
        | refine c_region ?_
        | refine s_nil ?_
        | refine s_move (by exact rfl) (by exact rfl) ?_
        | refine s_add (by exact rfl) (by exact rfl) (by exact rfl) (by omega) ?_
        | refine c_skip ?_
        | refine k_blk ?_
        | refine c_cond_f (by exact rfl) ?_
      refine c_round (k + 1, vx) [1, 1, 1] (by dsimp only; rw [htk]; rfl) (by exact ⟨rfl, rfl, rfl, rfl, rfl, rfl, trivial⟩) (by dsimp only; omega) (by dsimp only; omega)
    · rw [hp, if_pos rfl] at htk
      repeat' first
        | refine k_then ?_
        | refine c_region ?_
        | refine s_nil ?_
        | refine s_fa (by exact rfl) (by exact rfl) ?_
        | refine s_ld_box (by exact rfl) (by exact rfl) (by exact .tail _ (.tail _ (.head _))) (by exact rfl) ?_
        | refine s_ldk_box (by exact rfl) (by exact rfl) (by exact .head _) (by exact rfl) (by exact rfl) ?_
        | refine c_cond_t (by exact rfl) ?_
      refine o_mk [.agg (eV e).toArray] (by exact rfl) (by exact rfl) rfl ?_ ?_ (by simp) fun vt hvt => ?_
      · simp [Value.cells, eV]
      · simp
      skip
      refine o_append_row (i := 2) (by exact rfl) (by exact rfl) (by exact rfl) (by exact rfl) (by exact .head _) (by simp [Value.cells, eV]) (by simp [Value.cells, eV, Value.oneCell']) ?_ fun vy hvy => ?_
      · omega
      repeat' first
        | refine s_fa (by exact rfl) (by exact rfl) ?_
      refine o_st_box (i := 3) (by exact rfl) (by exact rfl) (by exact rfl) hvy.one (by simp [Value.cells]) ?_
      repeat' first
        | refine k_then ?_
        | refine c_region ?_
        | refine s_nil ?_
        | refine s_move (by exact rfl) (by exact rfl) ?_
        | refine s_add (by exact rfl) (by exact rfl) (by exact rfl) (by omega) ?_
        | refine k_blk ?_
      refine c_round (k + 1, vy) [2, 2, 2] ?_ (by exact ⟨rfl, rfl, rfl, rfl, rfl, rfl, trivial⟩) (by dsimp only; omega) (by dsimp only; omega)
      dsimp only
      rw [htk, esV_snoc, List.length_append]
      rfl
  · repeat' first
      | refine k_then ?_
      | refine c_seq ?_
      | refine c_region ?_
      | refine s_nil ?_
      | refine s_lss (by exact rfl) (by exact rfl) (by exact rfl) ?_
      | refine s_ldk_box (by exact rfl) (by exact rfl) (by exact .tail _ (.head _)) (by exact rfl) (by exact rfl) ?_
      | refine c_exit ?_
      | refine k_then_exit ?_
      | refine k_blk_eq ?_
      | (refine c_cond_p (by exact rfl) (fun h => ?_) (fun h => ?_) <;> try (exfalso; omega))
    obtain rfl : k = es.length := by omega
    refine o_stk_box (i := 2) (us := [.int .i64 n, vx]) (by exact rfl) (by exact rfl) (by exact rfl) (by exact rfl) (by exact rfl) (by
      intro u hu
      simp only [List.mem_cons, List.not_mem_nil, or_false] at hu
      rcases hu with rfl | rfl
      · rfl
      · exact hvx.one) (by simp [Value.cells]) ?_
    repeat' first
      | refine k_then ?_
      | refine s_nil ?_
      | refine c_ret ?_
    refine retL [.cell 4 24] [.agg #[.int .i64 n, vx]] [0] rfl ⟨res_cellk (tb := 24) (cs := [.int .i64 n, vx]) rfl (.tail _ (.tail _ (.head _))) rfl rfl, trivial⟩ rfl ⟨vx, rfl, ?_⟩
    rw [List.take_length]

theorem only1_ok (x : Nat) (b : Nat) (vk : Value) (keep : List Bool) (w : World) (hb : RB w No b 35 [vk]) (hs : Shp vk keep.length) (hr : RO w No vk (bV keep)) :
    Calls Try.prog 66 #[.int .i64 (x : Int), .pointer (some ⟨b, 0, none⟩)] w (Post w No (Just (.bool (keep.getD x false)))) := by
  refine enter0 (vs := [_, _]) Try.func66 rfl Try.ntmps66 rfl ?_
  by_cases hx : x < keep.length
  · have hg := bV_get hx
    repeat' first
      | refine k_then ?_
      | refine c_seq ?_
      | refine c_region ?_
      | refine s_nil ?_
      | refine s_move (by exact rfl) (by exact rfl) ?_
      | refine s_assign (by exact rfl) (by exact rfl) ?_
      | refine s_lss (by exact rfl) (by exact rfl) (by exact rfl) ?_
      | refine s_len (by exact rfl) (by exact rfl) (by assumption) ?_
      | refine s_pick_t (by exact rfl) (by exact rfl) (by exact rfl) ?_
      | refine s_ld_rb (by exact rfl) (by exact rfl) (by assumption) (by exact rfl) ?_
      | refine c_ret ?_
      | (refine g_case (by exact rfl) (by exact rfl) (fun h => ?_) (fun h => ?_) <;> try (exfalso; omega))
      | refine w_move (by exact rfl) (by exact rfl) (by exact rfl) (by exact rfl) ?_
      | refine w_idx (by exact rfl) (by exact rfl) (by exact rfl) (by exact rfl) (by exact rfl) (by assumption) (by first | assumption | omega) ?_
      | refine w_ld_ro (by exact rfl) (by exact rfl) (by exact rfl) (by exact rfl) (by assumption) (by assumption) ?_
      | refine w_ld_rb (by exact rfl) (by exact rfl) (by exact rfl) (by exact rfl) (by assumption) (by exact rfl) ?_
    refine ret1 [] rfl rfl rfl ⟨rfl, rfl⟩
  · repeat' first
      | refine k_then ?_
      | refine c_seq ?_
      | refine c_region ?_
      | refine s_nil ?_
      | refine s_move (by exact rfl) (by exact rfl) ?_
      | refine s_assign (by exact rfl) (by exact rfl) ?_
      | refine s_lss (by exact rfl) (by exact rfl) (by exact rfl) ?_
      | refine s_len (by exact rfl) (by exact rfl) (by assumption) ?_
      | refine s_pick_f (by exact rfl) (by exact rfl) (by exact rfl) ?_
      | refine s_ld_rb (by exact rfl) (by exact rfl) (by assumption) (by exact rfl) ?_
      | refine c_ret ?_
      | (refine g_case (by exact rfl) (by exact rfl) (fun h => ?_) (fun h => ?_) <;> try (exfalso; omega))
      | refine g_skip (by exact rfl) (by exact rfl) (by exact rfl) (by exact rfl) ?_
    refine ret1 [] rfl rfl rfl ⟨congrArg Value.bool ?_, rfl⟩
    simp [hx]

theorem only2_ok (k : Int) (e : E) (x y : Nat) (bk c : Nat) (vk : Value) (keep : List Bool) (w : World) (hx : e.1 = x) (hy : e.2.1 = y) (hb : RB w No bk 35 [vk]) (hc : RB w No c 90 [.func (.func 66) #[] #[.pointer (some ⟨bk, 0, none⟩)]]) (hs : Shp vk keep.length) (hr : RO w No vk (bV keep)) :
    Calls Try.prog 68 #[.int .i64 k, .agg (eV e).toArray, .pointer (some ⟨c, 0, none⟩)] w (Post w No (Just (.bool (keep.getD x false && keep.getD y false)))) := by
  refine enter0 (vs := [_, _, _]) Try.func68 rfl Try.ntmps68 rfl ?_
  obtain ⟨e1, e2, e3⟩ := e
  dsimp only at hx hy
  subst hx hy
  repeat' first
    | refine k_then ?_
    | refine c_seq ?_
    | refine c_region ?_
    | refine s_nil ?_
    | refine s_assign (by exact rfl) (by exact rfl) ?_
    | refine s_fa (by exact rfl) (by exact rfl) ?_
    | refine s_ld_box (by exact rfl) (by exact rfl) (by exact .head _) (by exact rfl) ?_
    | refine s_ld_rb (by exact rfl) (by exact rfl) (by assumption) (by exact rfl) ?_
    | refine o_box (by exact rfl) (by exact rfl) (fun b => ?_)
  refine s_callv (pre := []) (vs := [.int .i64 (x : Int)]) (by exact rfl) (by exact rfl) (by exact rfl) (fun w h => only1_ok x bk vk keep w (rb_old h hb) hs (ro_old h hr)) ?_
  cases keep.getD x false
  · repeat' first
      | refine k_then ?_
      | refine s_nil ?_
      | refine s_move (by exact rfl) (by exact rfl) ?_
      | refine s_assign (by exact rfl) (by exact rfl) ?_
      | refine s_pick_f (by exact rfl) (by exact rfl) (by exact rfl) ?_
      | refine c_ret ?_
      | refine g_skip (by exact rfl) (by exact rfl) (by exact rfl) (by exact rfl) ?_
    refine ret1 [] rfl rfl rfl ⟨rfl, rfl⟩
  · repeat' first
      | refine s_move (by exact rfl) (by exact rfl) ?_
      | refine w_fa (by exact rfl) (by exact rfl) (by exact rfl) (by exact rfl) ?_
      | refine w_ld_box (by exact rfl) (by exact rfl) (by exact rfl) (by exact rfl) (by exact .head _) (by exact rfl) ?_
      | refine w_ld_rb (by exact rfl) (by exact rfl) (by exact rfl) (by exact rfl) (by assumption) (by exact rfl) ?_
    refine w_callv (pre := []) (vs := [.int .i64 (y : Int)]) (by exact rfl) (by exact rfl) (by exact rfl) (by exact rfl) (by exact rfl) (fun w h => only1_ok y bk vk keep w (rb_old h hb) hs (ro_old h hr)) ?_
    repeat' first
      | refine k_then ?_
      | refine s_nil ?_
      | refine s_assign (by exact rfl) (by exact rfl) ?_
      | refine s_pick_t (by exact rfl) (by exact rfl) (by exact rfl) ?_
      | refine c_ret ?_
    refine ret1 [] rfl rfl rfl ⟨rfl, rfl⟩

def keepE (keep : List Bool) (e : E) : Bool := keep.getD e.1.toNat false && keep.getD e.2.1.toNat false

theorem Only_ok (n : Int) (v : Value) (es : List E) (vk : Value) (keep : List Bool) (w : World) (hs : Shp v es.length) (hr : RO w No v (esV es)) (hR : RightG n es) (hks : Shp vk keep.length) (hkr : RO w No vk (bV keep)) :
    Calls Try.prog 45 #[.agg #[.int .i64 n, v], vk] w (Post w No fun r L' => ∃ vo, r = .agg #[.int .i64 n, vo] ∧ L' = [rowHP vo 47 3 (es.filter (keepE keep)).length (esV (es.filter (keepE keep)))]) := by
  refine enter0 (vs := [_, _]) Try.func45 rfl Try.ntmps45 rfl ?_
  repeat' first
    | refine k_then ?_
    | refine c_seq ?_
    | refine c_region ?_
    | refine s_nil ?_
    | refine o_box (by exact rfl) (by exact rfl) (fun b => ?_)
    | refine o_alloc (by exact rfl) (fun b => ?_)
  rename_i b2 b3
  rw [one_cells hks.one]
  refine o_mkf [] [.pointer (some ⟨b3, 0, none⟩)] (by exact rfl) (by exact rfl) (by exact rfl) ?_
  repeat' first
    | refine o_alloc (by exact rfl) (fun b => ?_)
  rename_i b5
  refine o_st_box (i := 0) (by exact rfl) (by exact rfl) (by exact rfl) rfl (by simp [Value.cells]) ?_
  repeat' first
    | refine k_then ?_
    | refine c_seq ?_
    | refine c_region ?_
    | refine s_nil ?_
    | refine s_ldk_box (by exact rfl) (by exact rfl) (by exact .tail _ (.tail _ (.tail _ (.head _)))) (by exact rfl) (by exact rfl) ?_
  refine o_mkf [] [.pointer (some ⟨b, 0, none⟩)] (by exact rfl) (by exact rfl) (by exact rfl) ?_
  refine o_call (vs := [.agg #[.int .i64 n, v], .func (.func 68) #[] #[.pointer (some ⟨b, 0, none⟩)]]) (by exact rfl) (by exact rfl) (fun w h => some_ok n v es 68 [.pointer (some ⟨b, 0, none⟩)] (keepE keep) w hs (ro_old h hr) hR ?_) ?_
  · intro k e he w' S' hm
    obtain ⟨q1, q2, q3, -, -⟩ := hR.ok e (List.mem_of_getElem? he)
    exact only2_ok k e e.1.toNat e.2.1.toNat b3 b vk keep w' (by omega) (by omega) (rb_mod (rb_own h (.tail _ (.tail _ (.head _)))) hm) (rb_mod (rb_own h (.head _)) hm) hks (ro_mod (ro_old h hkr) hm)
  rintro _ _ ⟨vo, rfl, rfl⟩
  refine know_row (v := vo) (.head _) fun hvo _ => ?_
  skip
  refine o_stk_box (i := 2) (us := [.int .i64 n, vo]) (by exact rfl) (by exact rfl) (by exact rfl) (by exact rfl) (by exact rfl) ?_ (by simp [Value.cells]) ?_
  · intro u hu
    simp only [List.mem_cons, List.not_mem_nil, or_false] at hu
    rcases hu with rfl | rfl
    · rfl
    · exact hvo.one
  repeat' first
    | refine k_then ?_
    | refine s_nil ?_
    | refine c_ret ?_
  refine retL [.cell 4 24] [.agg #[.int .i64 n, vo]] [0] rfl ⟨res_cellk (tb := 24) (cs := [.int .i64 n, vo]) rfl (.tail _ (.tail _ (.head _))) rfl rfl, trivial⟩ rfl ⟨vo, rfl, rfl⟩
end Go.Proofs.Ytkekpgkacjpjnaa
