/- Of BakerAny: part 3: what the walks rest on, contracts of functions and plain lemmas; no condition but those that each states. -/
import Derived.Test.YtpajjnkmaebhcabGreatBn2
import Derived.DeepKeys4
import Derived.ProofKit
import Derived.Shelf.SlSortCmp.NoneTotal
import Derived.Shelf.SlGeneric
set_option linter.unusedVariables false
set_option linter.unusedSimpArgs false
section
namespace Go.Proofs.YtpajjnkmaebhcabGreat
open Go.RowKit Go.Sl Fil
set_option maxRecDepth 100000
set_option maxHeartbeats 8000000
set_option linter.unusedVariables false
set_option linter.unusedSimpArgs false
attribute [local irreducible] Code.wp wpList bodyPost wpQuiet Exit.then Exit.inBlock Post wpAnyH wpOp
theorem values1I_ok (b : Nat) (v : Value) (xs : List Int) (w : World) (S : FS) (hb : RB w S b 28 [v]) (hs : Shp v xs.length) (hr : RO w S v (iV xs)) :
    IterOK Tryz.prog 152 [.pointer (some ⟨b, 0, none⟩)] xs.length (fun i => [.int .i64 (xs.getD i 0)]) w S := by
  intro l LL hy M hM hsat
  have hm := hs.1
  simp only [maxLen] at hm
  refine enter (vs := [_, _]) Tryz.func152 rfl Tryz.ntmps152 rfl hsat ?_
  repeat' first
    | refine k_then ?_ | refine c_seq ?_ | refine c_region ?_ | refine s_nil ?_ | refine s_move (by exact rfl) (by exact rfl) ?_ | refine s_len (by exact rfl) (by exact rfl) (by assumption) ?_ | refine s_ld_rb (by exact rfl) (by exact rfl) (by assumption) (by exact rfl) ?_ | refine c_block ?_
  refine c_loop (fun x : Nat × List HP => x.1 ≤ xs.length ∧ LL x.1 x.2) (fun x => [(0, .func (.yield l) #[] #[]), (5, v), (6, .int .i64 (xs.length : Int)), (7, .int .i64 (x.1 : Int))]) (fun x => x.2) (fun x => xs.length - x.1) (0, M) (List.replicate M.length 0) ⟨by simp, hM⟩ (pick_id M) ⟨rfl, rfl, rfl, rfl, trivial⟩ ?_
  clear hM hsat
  rintro ⟨i, M⟩ ⟨hi, hM⟩
  dsimp only at hi hM ⊢
  by_cases hil : i < xs.length
  · have hci := iV_get hil
    generalize hreg : Code.region 3 _ _ = creg
    repeat' first
      | refine k_then ?_ | refine c_seq ?_ | refine c_region ?_ | refine s_nil ?_ | refine s_assign (by exact rfl) (by exact rfl) ?_ | refine s_lss (by exact rfl) (by exact rfl) (by exact rfl) ?_ | refine s_idx (by exact rfl) (by exact rfl) (by exact rfl) (by assumption) (by first | assumption | omega) ?_ | refine s_ld_ro (by exact rfl) (by exact rfl) (by assumption) (by assumption) ?_ | refine c_block ?_ | refine c_skip ?_ | (refine c_cond_p (by exact rfl) (fun h => ?_) (fun h => ?_) <;> try (exfalso; omega))
    subst hreg
    refine c_region_k 2 (by exact rfl) ?_
    simp only [List.take_succ_cons, List.take_zero, List.drop_succ_cons, List.drop_zero]
    repeat' first
      | refine k_then ?_ | refine s_nil ?_ | refine s_move (by exact rfl) (by exact rfl) ?_
    refine y_yield (K := LL (i + 1)) (by exact rfl) rfl (vs := [.int .i64 (xs.getD i 0)]) (by exact rfl) (fun W S' hm hs => hy i M W S' hil hM hm hs) fun M' hM' => ?_
    refine y_rest (by exact rfl) ?_
    repeat' first
      | refine k_then ?_ | refine c_region ?_ | refine s_nil ?_ | refine s_move (by exact rfl) (by exact rfl) ?_ | refine s_add (by exact rfl) (by exact rfl) (by exact rfl) (by omega) ?_ | refine s_not (by exact rfl) (by exact rfl) ?_ | refine c_skip ?_ | refine k_blk ?_ | refine c_cond_f (by exact rfl) ?_
    refine c_round (i + 1, M') (List.replicate M'.length 0) (pick_id M') ⟨rfl, rfl, rfl, rfl, trivial⟩ ⟨by dsimp only; omega, hM'⟩ (by dsimp only; omega)
  · repeat' first
      | refine k_then ?_ | refine c_seq ?_ | refine c_region ?_ | refine s_nil ?_ | refine s_lss (by exact rfl) (by exact rfl) (by exact rfl) ?_ | refine c_exit ?_ | refine k_then_exit ?_ | refine k_blk_eq ?_ | (refine c_cond_p (by exact rfl) (fun h => ?_) (fun h => ?_) <;> try (exfalso; omega))
    obtain rfl : i = xs.length := by omega
    refine ret0 (List.replicate M.length 0) rfl (pick_id M) hM
theorem appendSeqI_ok (it : FuncId) (caps : List Value) (xs : List Int) (w : World) [FnTy Tryz.prog it] (hN : xs.length ≤ 1048576)
    (hit : ∀ w' S' Sf, Mod w No w' Sf → (∀ k, S' k → Sf k) → IterOK Tryz.prog it caps xs.length (fun i => [.int .i64 (xs.getD i 0)]) w' S') :
    Calls Tryz.prog 165 #[.slice none 0 0, .func (.func it) #[] caps.toArray] w (Post w No fun r L' => L' = [rowHP r 3 1 xs.length (iV xs)]) := by
  refine enterM0 (vs := [_, _]) Tryz.func165 rfl Tryz.ntmps165 rfl ?_
  generalize hrest : Code.rangeFunc _ _ _ _ = crange
  repeat' first
    | refine k_then ?_ | refine c_seq ?_ | refine c_region ?_ | refine s_nil ?_ | refine s_move (by exact rfl) (by exact rfl) ?_ | refine s_assign (by exact rfl) (by exact rfl) ?_ | refine o_box (by exact rfl) (by exact rfl) (fun b => ?_) | refine c_block ?_
  subst hrest
  refine c_nil 3 1 ?_
  refine c_range (ps := [7]) it caps _ [] xs.length (fun i => [.int .i64 (xs.getD i 0)]) (fun i M => i ≤ xs.length ∧ ∃ vi, M = [rowHP vi 3 1 i (iV (xs.take i)), boxHP b 28 [vi]]) (List.append_nil _).symm (by exact rfl) (by exact rfl) (fun _ => rfl) (fun w' S' M h => by
    obtain ⟨Sf, hm, hS⟩ := h.old
    exact hit w' S' Sf hm hS) ⟨Nat.zero_le _, .slice none 0 0, rfl⟩ ?_ ?_
  · rintro i _ _ W S' l D r m hi ⟨_, vi, rfl⟩ rfl hlent hst
    obtain ⟨x, hx⟩ : ∃ x, xs[i]? = some x := ⟨_, List.getElem?_eq_getElem hi⟩
    have hg : xs.getD i 0 = x := by rw [List.getD_eq_getElem?_getD, hx]; rfl
    have htk : xs.take (i + 1) = xs.take i ++ [x] := by rw [List.take_add_one, hx]; rfl
    rw [hg]
    simp only [List.zip_cons_cons, List.zip_nil_left, List.reverse_cons, List.reverse_nil, List.nil_append, List.cons_append]
    refine x_region (by exact rfl) ?_
    repeat' first
      | refine k_then ?_ | refine s_nil ?_ | refine s_assign (by exact rfl) (by exact rfl) ?_
    refine r_begin (j := 0) rfl hst ?_
    refine x_block ?_
    refine x_region (by exact rfl) ?_
    repeat' first
      | refine s_move (by exact rfl) (by exact rfl) ?_ | refine s_ld_box (by exact rfl) (by exact rfl) (by exact .tail _ (.tail _ (.tail _ (.head _)))) (by exact rfl) ?_
    refine o_mk [.int .i64 x] (by exact rfl) (by exact rfl) rfl (by simp [Value.cells]) (by simp) (by simp) fun vt hvt => ?_
    skip
    refine o_append_row (bytes := 8) (i := 3) (by exact rfl) (by exact rfl) (by exact rfl) (by exact rfl) (by exact .head _) (by exact rfl) (by simp [Value.cells, Value.oneCell']) (by omega) fun v3 hv3 => ?_
    skip
    refine o_st_box (i := 4) (by exact rfl) (by exact rfl) (by exact rfl) hv3.one (by simp) ?_
    repeat' first
      | refine s_nil ?_ | refine k_blk ?_
    refine r_end (j := 1) [1, 1, 1, 1] rfl rfl fun W2 h2 => ⟨rfl, ?_⟩
    obtain ⟨S2, hm2, hl2⟩ := h2
    refine ⟨_, S2, ⟨_, ⟨by omega, v3, rfl⟩, rfl⟩, hm2, ?_⟩
    rw [htk, show iV (xs.take i ++ [x]) = iV (xs.take i) ++ [.int .i64 x] by simp [iV]]
    exact hl2
  · rintro _ l D r ⟨_, vi, rfl⟩
    refine know_row (v := vi) (.tail _ (.tail _ (.head _))) fun hvi _ => ?_
    refine m_blk ?_
    refine m_then ?_
    refine m_seq ?_
    refine m_region (by exact rfl) ?_
    repeat' first
      | refine s_nil ?_ | refine s_assign (by exact rfl) (by exact rfl) ?_ | refine s_ld_box (by exact rfl) (by exact rfl) (by exact .tail _ (.tail _ (.tail _ (.head _)))) (by exact rfl) ?_
    refine m_then ?_
    refine m_ret ?_
    refine m_end (j := 1) rfl ?_
    refine ret1 [2] rfl rfl rfl ?_
    rw [List.take_length]
theorem Values_ok (v : Value) (w : World) (hv : v.oneCell' = true) : Calls Tryz.prog 134 #[v] w (Post w No fun r L' => ∃ b, r = .func (.func 152) #[] #[.pointer (some ⟨b, 0, none⟩)] ∧ L' = [boxHP b 28 [v]]) := by
  refine enter0 (vs := [_]) Tryz.func134 rfl Tryz.ntmps134 rfl ?_
  repeat' first
    | refine k_then ?_ | refine c_seq ?_ | refine c_region ?_ | refine s_nil ?_ | refine s_assign (by exact rfl) (by exact rfl) ?_ | refine o_box (by exact rfl) (by exact rfl) (fun b => ?_)
  refine o_mkf [] [.pointer (some ⟨b, 0, none⟩)] (by exact rfl) (by exact rfl) (by exact rfl) ?_
  repeat' first
    | refine k_then ?_ | refine s_nil ?_ | refine s_assign (by exact rfl) (by exact rfl) ?_ | refine c_ret ?_
  rw [one_cells hv]
  refine ret1 [0] rfl rfl rfl ⟨b, rfl, rfl⟩
theorem CollectI_ok (it : FuncId) (caps : List Value) (xs : List Int) (w : World) [FnTy Tryz.prog it] (hN : xs.length ≤ 1048576)
    (hit : ∀ w' S' Sf, Mod w No w' Sf → (∀ k, S' k → Sf k) → IterOK Tryz.prog it caps xs.length (fun i => [.int .i64 (xs.getD i 0)]) w' S') :
    Calls Tryz.prog 151 #[.func (.func it) #[] caps.toArray] w (Post w No fun r L' => L' = [rowHP r 3 1 xs.length (iV xs)]) := by
  refine enter0 (vs := [_]) Tryz.func151 rfl Tryz.ntmps151 rfl ?_
  repeat' first
    | refine k_then ?_ | refine c_seq ?_ | refine c_region ?_ | refine s_nil ?_ | refine s_move (by exact rfl) (by exact rfl) ?_ | refine s_assign (by exact rfl) (by exact rfl) ?_
  refine o_call (by exact rfl) (by exact rfl) (fun w1 h => appendSeqI_ok it caps xs w1 hN fun w' S' Sf hm hS => h.mod0.elim fun S1 hm1 => hit w' S' _ (mod_trans0 hm1 hm) fun k hk => .inr (hS k hk)) ?_
  rintro vo _ rfl
  repeat' first
    | refine k_then ?_ | refine s_nil ?_ | refine s_assign (by exact rfl) (by exact rfl) ?_ | refine c_ret ?_
  refine ret1 [0] rfl rfl rfl rfl
theorem SortedI_ok (it : FuncId) (caps : List Value) (xs : List Int) (w : World) [FnTy Tryz.prog it] (hN : xs.length ≤ 1048576)
    (hit : ∀ w' S' Sf, Mod w No w' Sf → (∀ k, S' k → Sf k) → IterOK Tryz.prog it caps xs.length (fun i => [.int .i64 (xs.getD i 0)]) w' S') :
    Calls Tryz.prog 133 #[.func (.func it) #[] caps.toArray] w (Post w No fun r L' => L' = [rowHP r 3 1 xs.length (iV (xs.mergeSort fun x y => decide (x ≤ y)))]) := by
  refine enter0 (vs := [_]) Tryz.func133 rfl Tryz.ntmps133 rfl ?_
  repeat' first
    | refine k_then ?_ | refine c_seq ?_ | refine c_region ?_ | refine s_nil ?_ | refine s_move (by exact rfl) (by exact rfl) ?_ | refine s_assign (by exact rfl) (by exact rfl) ?_
  refine o_call (by exact rfl) (by exact rfl) (fun w1 h => CollectI_ok it caps xs w1 hN fun w' S' Sf hm hS => h.mod0.elim fun S1 hm1 => hit w' S' _ (mod_trans0 hm1 hm) fun k hk => .inr (hS k hk)) ?_
  rintro vo _ rfl
  repeat' first
    | refine k_then ?_ | refine c_seq ?_ | refine c_region ?_ | refine s_nil ?_ | refine s_move (by exact rfl) (by exact rfl) ?_ | refine s_assign (by exact rfl) (by exact rfl) ?_
  refine s_lend [rowHP vo 3 1 xs.length (iV xs)] _ (by exact rfl) (by exact rfl) (by exact rfl) (fun w S h => sort_row (sats_mem h.own (.head _)) (by omega)) ?_
  rintro _ _ ⟨rfl, rfl⟩
  repeat' first
    | refine k_then ?_ | refine c_seq ?_ | refine c_region ?_ | refine s_nil ?_ | refine s_move (by exact rfl) (by exact rfl) ?_ | refine s_assign (by exact rfl) (by exact rfl) ?_ | refine c_ret ?_
  refine ret1 [0] rfl rfl rfl rfl
end Go.Proofs.YtpajjnkmaebhcabGreat
end
section
namespace Go.Proofs.YtpajjnkmaebhcabGreat
open Go.RowKit Go.Sl Fil
set_option maxRecDepth 100000
set_option maxHeartbeats 8000000
set_option linter.unusedVariables false
set_option linter.unusedSimpArgs false
attribute [local irreducible] Code.wp wpList bodyPost wpQuiet Exit.then Exit.inBlock Post wpAnyH wpOp
theorem esV_get {es : List E} {k : Nat} {e : E} (h : es[k]? = some e) : (esV es)[k * 3 + 0]? = some (.int .i64 e.1) ∧ (esV es)[k * 3 + 1]? = some (.int .i64 e.2.1) ∧ (esV es)[k * 3 + 2]? = some (.int .i64 e.2.2) := by
  have h1 := esV_at h
  have key : ∀ j, j < 3 → (esV es)[k * 3 + j]? = (eV e)[j]? := fun j hj => by
    rw [← h1, List.getElem?_take, if_pos hj, List.getElem?_drop]
  exact ⟨key 0 (by omega), key 1 (by omega), key 2 (by omega)⟩
theorem many_ok (n m : Int) (w : World) : Calls Tryz.prog 40 #[.int .i64 n, .int .i64 m] w (Post w No (Just (.int .i64 (sizesK n m)))) := by
  refine enter0 (vs := [_, _]) Tryz.func40 rfl Tryz.ntmps40 rfl ?_
  repeat' first
    | refine k_then ?_ | refine c_seq ?_ | refine c_region ?_ | refine s_nil ?_ | refine s_move (by exact rfl) (by exact rfl) ?_ | refine s_assign (by exact rfl) (by exact rfl) ?_ | refine s_lss (by exact rfl) (by exact rfl) (by exact rfl) ?_ | refine s_gtr (by exact rfl) (by exact rfl) (by exact rfl) ?_ | refine s_pick_t (by exact rfl) (by exact rfl) (by exact rfl) ?_ | refine s_pick_f (by exact rfl) (by exact rfl) (by exact rfl) ?_ | refine c_skip ?_ | refine c_ret ?_ | refine k_then_ret ?_ | (refine c_cond_p (by exact rfl) (fun h => ?_) (fun h => ?_) <;> try (exfalso; omega)) | refine c_cond_t (by exact rfl) ?_ | (refine g_case (by exact rfl) (by exact rfl) (fun h => ?_) (fun h => ?_) <;> try (exfalso; omega)) | refine g_skip (by exact rfl) (by exact rfl) (by exact rfl) (by exact rfl) ?_ | refine w_move (by exact rfl) (by exact rfl) (by exact rfl) (by exact rfl) ?_ | refine w_gtr (by exact rfl) (by exact rfl) (by exact rfl) (by exact rfl) (by exact rfl) ?_
  all_goals refine ret1 [] rfl rfl rfl ⟨?_, rfl⟩
  all_goals (refine congrArg (Value.int .i64) ?_; simp only [sizesK]; repeat' split)
  all_goals omega
theorem edge_ok (n : Int) (e : E) (w : World) : Calls Tryz.prog 41 #[.int .i64 n, .agg (eV e).toArray] w (Post w No (Just (.int .i64 (aloneK n e.1 e.2.1 e.2.2)))) := by
  refine enter0 (vs := [_, _]) Tryz.func41 rfl Tryz.ntmps41 rfl ?_
  repeat' first
    | refine k_then ?_ | refine c_seq ?_ | refine c_region ?_ | refine s_nil ?_ | refine s_move (by exact rfl) (by exact rfl) ?_ | refine s_assign (by exact rfl) (by exact rfl) ?_ | refine s_fa (by exact rfl) (by exact rfl) ?_ | refine s_ld_box (by exact rfl) (by exact rfl) (by exact .head _) (by exact rfl) ?_ | refine s_lss (by exact rfl) (by exact rfl) (by exact rfl) ?_ | refine s_leq (by exact rfl) (by exact rfl) (by exact rfl) ?_ | refine s_eql (by exact rfl) (by exact rfl) (by exact rfl) ?_ | refine s_pick_t (by exact rfl) (by exact rfl) (by exact rfl) ?_ | refine s_pick_f (by exact rfl) (by exact rfl) (by exact rfl) ?_ | refine o_box (by exact rfl) (by exact rfl) (fun b => ?_) | refine c_skip ?_ | refine c_ret ?_ | refine k_then_ret ?_ | (refine c_cond_p (by exact rfl) (fun h => ?_) (fun h => ?_) <;> try (exfalso; omega)) | refine c_cond_t (by exact rfl) ?_ | (refine g_case (by exact rfl) (by exact rfl) (fun h => ?_) (fun h => ?_) <;> try (exfalso; omega)) | refine g_skip (by exact rfl) (by exact rfl) (by exact rfl) (by exact rfl) ?_ | refine w_move (by exact rfl) (by exact rfl) (by exact rfl) (by exact rfl) ?_ | refine w_fa (by exact rfl) (by exact rfl) (by exact rfl) (by exact rfl) ?_ | refine w_ld_box (by exact rfl) (by exact rfl) (by exact rfl) (by exact rfl) (by exact .head _) (by exact rfl) ?_ | refine w_lss (by exact rfl) (by exact rfl) (by exact rfl) (by exact rfl) (by exact rfl) ?_ | refine w_geq (by exact rfl) (by exact rfl) (by exact rfl) (by exact rfl) (by exact rfl) ?_
  all_goals refine ret1 [] rfl rfl rfl ⟨?_, rfl⟩
  all_goals (refine congrArg (Value.int .i64) ?_; simp only [aloneK]; repeat' split)
  all_goals omega
theorem below_ok (a b : E) (w : World) : Calls Tryz.prog 42 #[.agg (eV a).toArray, .agg (eV b).toArray] w (Post w No (Just (.bool (belowB a b)))) := by
  refine enter0 (vs := [_, _]) Tryz.func42 rfl Tryz.ntmps42 rfl ?_
  repeat' first
    | refine k_then ?_ | refine c_seq ?_ | refine c_region ?_ | refine s_nil ?_ | refine s_move (by exact rfl) (by exact rfl) ?_ | refine s_assign (by exact rfl) (by exact rfl) ?_ | refine s_fa (by exact rfl) (by exact rfl) ?_ | refine s_ld_box (by exact rfl) (by exact rfl) (by first | exact .head _ | exact .tail _ (.head _)) (by exact rfl) ?_ | refine s_lss (by exact rfl) (by exact rfl) (by exact rfl) ?_ | refine s_pick_t (by exact rfl) (by exact rfl) (by exact rfl) ?_ | refine s_pick_f (by exact rfl) (by exact rfl) (by exact rfl) ?_ | refine o_box (by exact rfl) (by exact rfl) (fun b => ?_) | refine c_ret ?_ | (refine g_case (by exact rfl) (by exact rfl) (fun h => ?_) (fun h => ?_) <;> try (exfalso; omega)) | refine g_skip (by exact rfl) (by exact rfl) (by exact rfl) (by exact rfl) ?_ | refine w_move (by exact rfl) (by exact rfl) (by exact rfl) (by exact rfl) ?_ | refine w_fa (by exact rfl) (by exact rfl) (by exact rfl) (by exact rfl) ?_ | refine w_ld_box (by exact rfl) (by exact rfl) (by exact rfl) (by exact rfl) (by first | exact .head _ | exact .tail _ (.head _)) (by exact rfl) ?_ | refine w_lss (by exact rfl) (by exact rfl) (by exact rfl) (by exact rfl) (by exact rfl) ?_ | refine w_eql (by exact rfl) (by exact rfl) (by exact rfl) (by exact rfl) (by exact rfl) ?_ | refine w_pick_t (by exact rfl) (by exact rfl) (by exact rfl) (by exact rfl) (by exact rfl) ?_ | refine w_pick_f (by exact rfl) (by exact rfl) (by exact rfl) (by exact rfl) (by exact rfl) ?_
  all_goals refine ret1 [] rfl rfl rfl ⟨?_, rfl⟩
  all_goals (refine congrArg Value.bool ?_; simp only [belowB])
  all_goals simp_all
theorem refRight_ok (n : Int) (v : Value) (es : List E) (w : World) (hs : Shp v es.length) (hr : RO w No v (esV es)) (hm : es.length < 4611686018427387904) :
    Calls Tryz.prog 39 #[.agg #[.int .i64 n, v]] w (Post w No (Just (.int .i64 (rightK n es)))) := by
  refine enter0 (vs := [_]) Tryz.func39 rfl Tryz.ntmps39 rfl ?_
  repeat' first
    | refine k_then ?_ | refine c_seq ?_ | refine c_region ?_ | refine s_nil ?_ | refine s_assign (by exact rfl) (by exact rfl) ?_ | refine s_fa (by exact rfl) (by exact rfl) ?_ | refine s_ld_box (by exact rfl) (by exact rfl) (by exact .head _) (by exact rfl) ?_ | refine s_len (by exact rfl) (by exact rfl) (by assumption) ?_ | refine o_box (by exact rfl) (by exact rfl) (fun b => ?_)
  refine s_call (by exact rfl) (by exact rfl) (fun w hs => many_ok _ _ w) ?_
  repeat' first
    | refine k_then ?_ | refine c_seq ?_ | refine c_region ?_ | refine s_nil ?_ | refine s_move (by exact rfl) (by exact rfl) ?_ | refine s_assign (by exact rfl) (by exact rfl) ?_ | refine s_neq (by exact rfl) (by exact rfl) (by exact rfl) ?_ | refine c_block ?_ | refine c_skip ?_ | refine c_ret ?_ | refine k_then_ret ?_ | (refine c_cond_p (by exact rfl) (fun h => ?_) (fun h => ?_) <;> try (exfalso; omega))
  · refine ret1 [] rfl rfl rfl ⟨congrArg (Value.int .i64) ?_, rfl⟩
    rw [rightK, if_neg h]
  · have h0 : sizesK n es.length = 0 := by simpa using h
    refine c_loop (fun k : Nat => k ≤ es.length ∧ scan n (prev es k) (es.drop k) = scan n none es) (fun k => [(1, .pointer (some ⟨b, 0, none⟩)), (4, .int .i64 (k : Int))]) (fun _ => [boxHP b 24 [.int .i64 n, v]]) (fun k => es.length - k) 0 [0] ⟨by omega, rfl⟩ rfl ⟨rfl, rfl, trivial⟩ ?_
    rintro k ⟨hk, hsc⟩
    by_cases hlt : k < es.length
    · obtain ⟨e, he⟩ : ∃ e, es[k]? = some e := ⟨_, List.getElem?_eq_getElem hlt⟩
      have hE := esV_at he
      obtain ⟨hE0, hE1, hE2⟩ := esV_get he
      rw [scan_at he] at hsc
      repeat' first
        | refine k_then ?_ | refine c_seq ?_ | refine c_region ?_ | refine s_nil ?_ | refine s_move (by exact rfl) (by exact rfl) ?_ | refine s_fa (by exact rfl) (by exact rfl) ?_ | refine s_ld_box (by exact rfl) (by exact rfl) (by exact .head _) (by exact rfl) ?_ | refine s_lss (by exact rfl) (by exact rfl) (by exact rfl) ?_ | refine s_len (by exact rfl) (by exact rfl) (by assumption) ?_ | refine c_block ?_ | refine c_skip ?_ | (refine c_cond_p (by exact rfl) (fun h => ?_) (fun h => ?_) <;> try (exfalso; omega))
      refine p_begin0 [(0, true), (1, true), (2, true), (3, true), (4, true), (5, true), (6, true), (7, false), (8, true)] (by kernel_rfl) ?_
      repeat' first
        | (refine p_at (by exact rfl) ?_
           first
            | refine t_move (by exact rfl) (by exact rfl) (by exact fun _ h => h) ?_ | refine t_fa (by exact rfl) (by exact rfl) (by exact fun _ h => h) ?_ | refine t_ld_box (by exact rfl) (by exact rfl) (by exact .head _) (by exact rfl) (by exact fun _ h => h) ?_ | refine t_idx (by exact rfl) (by exact rfl) (by exact rfl) (by assumption) (by first | assumption | omega) (by exact fun _ h => h) ?_ | refine t_ldk_ro (by exact rfl) (by exact rfl) (by assumption) (by decide) (by assumption) (by exact rfl) (by exact fun _ h => h) ?_)
      refine p_call (gd := none) (by exact rfl) rfl (by exact rfl) (fun w hs => edge_ok n e w) (by exact fun _ h => h) ?_
      repeat' first
        | refine p_nil ?_
        | (refine p_at (by exact rfl) ?_
           first
            | refine t_assign (by exact rfl) (by exact rfl) (by exact fun _ h => h) ?_)
      repeat' first
        | refine k_then ?_ | refine c_seq ?_ | refine c_region ?_ | refine s_nil ?_ | refine s_move (by exact rfl) (by exact rfl) ?_ | refine s_assign (by exact rfl) (by exact rfl) ?_ | refine s_neq (by exact rfl) (by exact rfl) (by exact rfl) ?_ | refine c_skip ?_ | refine c_ret ?_ | refine k_then_ret ?_ | refine k_blk_ret ?_ | (refine c_cond_p (by exact rfl) (fun h => ?_) (fun h => ?_) <;> try (exfalso; omega))
      · refine ret1 [] rfl rfl rfl ⟨congrArg (Value.int .i64) ?_, rfl⟩
        rw [rightK, if_pos h0, ← hsc, if_neg h]
      · refine p_begin0 [(0, true), (1, true), (2, true), (3, true), (4, true), (5, true), (6, true), (7, true), (8, true), (9, true), (10, true), (11, true), (12, true)] (by kernel_rfl) ?_
        repeat' first
          | refine p_nil ?_
          | (refine p_at (by exact rfl) ?_
             first
              | refine t_move (by exact rfl) (by exact rfl) (by exact fun _ h => h) ?_ | refine t_fa (by exact rfl) (by exact rfl) (by exact fun _ h => h) ?_ | refine t_ld_box (by exact rfl) (by exact rfl) (by exact .head _) (by exact rfl) (by exact fun _ h => h) ?_ | refine t_gtr (by exact rfl) (by exact rfl) (by exact rfl) (by exact fun _ h => h) ?_ | refine t_idx (by exact rfl) (by exact rfl) (by exact rfl) (by assumption) (by first | assumption | omega) (by exact fun _ h => h) ?_ | refine t_fap (by exact rfl) (by exact rfl) (by assumption) (by omega) (by exact fun _ h => h) ?_ | refine t_ld_ro (by exact rfl) (by exact rfl) (by assumption) (by assumption) (by exact fun _ h => h) ?_)
        repeat' first
          | refine k_then ?_ | refine c_seq ?_ | refine c_region ?_ | refine s_nil ?_ | refine s_assign (by exact rfl) (by exact rfl) ?_ | refine c_skip ?_ | refine c_ret ?_ | refine k_then_ret ?_ | refine k_blk_ret ?_ | (refine c_cond_p (by exact rfl) (fun h => ?_) (fun h => ?_) <;> try (exfalso; omega))
        · refine ret1 [] rfl rfl rfl ⟨congrArg (Value.int .i64) ?_, rfl⟩
          rw [rightK, if_pos h0, ← hsc, if_pos (by omega), if_pos h]
        · refine p_begin0 [(0, true), (1, true), (2, true), (3, true), (4, true), (5, true), (6, true), (7, true), (8, true), (9, true), (10, true), (11, true), (12, true), (13, true), (14, false), (15, true), (16, true)] (by kernel_rfl) ?_
          by_cases hk0 : k = 0
          · subst hk0
            repeat' first
              | refine p_nil ?_
              | (refine p_at (by exact rfl) ?_
                 first
                  | refine t_move (by exact rfl) (by exact rfl) (by exact fun _ h => h) ?_ | refine t_gtr (by exact rfl) (by exact rfl) (by exact rfl) (by exact fun _ h => h) ?_ | refine t_pick_f (by exact rfl) (by exact rfl) (by exact rfl) (by exact fun _ h => h) ?_ | (refine t_case (by exact rfl) (by exact rfl) (fun h => ?_) (fun h => ?_) <;> try (exfalso; omega)) | refine t_skip (by exact rfl) (by exact rfl) (by exact rfl) (by exact rfl) (by exact fun _ h => h) ?_ | refine t_skipl (by exact rfl) (by exact rfl) (by exact rfl) (by exact rfl) (by exact fun _ h => h) ?_)
            repeat' first
              | refine k_then ?_ | refine c_region ?_ | refine s_nil ?_ | refine s_move (by exact rfl) (by exact rfl) ?_ | refine s_assign (by exact rfl) (by exact rfl) ?_ | refine s_add (by exact rfl) (by exact rfl) (by exact rfl) (by omega) ?_ | refine c_skip ?_ | refine k_blk ?_ | refine c_cond_f (by exact rfl) ?_
            refine c_round 1 [0] (by exact rfl) (by exact ⟨rfl, rfl, trivial⟩) ⟨by omega, ?_⟩ (by omega)
            rw [← hsc, if_pos (by omega), if_neg (by omega)]
            simp only [prev, Nat.one_ne_zero, if_false, Nat.sub_self, he, if_true, Nat.zero_add]
          · obtain ⟨q, hq⟩ : ∃ q, es[k - 1]? = some q := ⟨_, List.getElem?_eq_getElem (by omega)⟩
            have hQ : ((esV es).drop (((k : Int) - 1).toNat * 3)).take 3 = eV q := by
              rw [show ((k : Int) - 1).toNat = k - 1 from by omega]
              exact esV_at hq
            have hpr : prev es k = some q := by rw [prev, if_neg hk0, hq]
            rw [hpr] at hsc
            repeat' first
              | (refine p_at (by exact rfl) ?_
                 first
                  | refine t_move (by exact rfl) (by exact rfl) (by exact fun _ h => h) ?_ | refine t_gtr (by exact rfl) (by exact rfl) (by exact rfl) (by exact fun _ h => h) ?_ | refine tw_move (by exact rfl) (by exact rfl) (by exact rfl) (by exact rfl) (by exact fun _ h => h) ?_ | refine tw_fa (by exact rfl) (by exact rfl) (by exact rfl) (by exact rfl) (by exact fun _ h => h) ?_ | refine tw_ld_box (by exact rfl) (by exact rfl) (by exact rfl) (by exact rfl) (by exact .head _) (by exact rfl) (by exact fun _ h => h) ?_ | refine tw_sub (by exact rfl) (by exact rfl) (by exact rfl) (by exact rfl) (by exact rfl) (by omega) (by exact fun _ h => h) ?_ | refine tw_idx (by exact rfl) (by exact rfl) (by exact rfl) (by exact rfl) (by exact rfl) (by assumption) (by first | assumption | omega) (by exact fun _ h => h) ?_ | refine tw_idxi (by exact rfl) (by exact rfl) (by exact rfl) (by exact rfl) (by exact rfl) (by assumption) (by first | assumption | omega) (by exact fun _ h => h) ?_ | refine tw_ldk_ro (by exact rfl) (by exact rfl) (by exact rfl) (by exact rfl) (by assumption) (by decide) (by assumption) (by exact rfl) (by exact fun _ h => h) ?_ | (refine t_case (by exact rfl) (by exact rfl) (fun h => ?_) (fun h => ?_) <;> try (exfalso; omega)))
            refine p_callw (by exact rfl) (by exact rfl) (by exact rfl) rfl (by exact rfl) (fun w hs => below_ok q e w) (by exact fun _ h => h) ?_
            have hb1 := orderK_below q e
            have hrg := orderK_range q e
            cases hbl : belowB q e
            · have ho : orderK q e ≠ -1 := fun hh => by rw [hb1.1.2 hh] at hbl; simp at hbl
              repeat' first
                | refine p_nil ?_
                | (refine p_at (by exact rfl) ?_
                   first
                    | refine t_pick_t (by exact rfl) (by exact rfl) (by exact rfl) (by exact fun _ h => h) ?_ | refine tw_not (by exact rfl) (by exact rfl) (by exact rfl) (by exact rfl) (by exact fun _ h => h) ?_)
              repeat' first
                | refine k_then ?_ | refine c_seq ?_ | refine c_cond_t (by exact rfl) ?_
              refine p_begin0 [(0, true), (1, true), (2, true), (3, true), (4, true), (5, true), (6, true), (7, true), (8, true), (9, true), (10, true), (11, false)] (by kernel_rfl) ?_
              repeat' first
                | (refine p_at (by exact rfl) ?_
                   first
                    | refine t_move (by exact rfl) (by exact rfl) (by exact fun _ h => h) ?_ | refine t_fa (by exact rfl) (by exact rfl) (by exact fun _ h => h) ?_ | refine t_ld_box (by exact rfl) (by exact rfl) (by exact .head _) (by exact rfl) (by exact fun _ h => h) ?_ | refine t_sub (by exact rfl) (by exact rfl) (by exact rfl) (by omega) (by exact fun _ h => h) ?_ | refine t_idx (by exact rfl) (by exact rfl) (by exact rfl) (by assumption) (by first | assumption | omega) (by exact fun _ h => h) ?_ | refine t_idxi (by exact rfl) (by exact rfl) (by exact rfl) (by assumption) (by first | assumption | omega) (by exact fun _ h => h) ?_ | refine t_ldk_ro (by exact rfl) (by exact rfl) (by assumption) (by decide) (by assumption) (by exact rfl) (by exact fun _ h => h) ?_)
              refine p_call (gd := none) (by exact rfl) rfl (by exact rfl) (fun w hs => below_ok e q w) (by exact fun _ h => h) ?_
              cases hbl2 : belowB e q
              · have ho2 : orderK q e ≠ 1 := fun hh => by rw [hb1.2.2 hh] at hbl2; simp at hbl2
                repeat' first
                  | refine p_nil ?_
                repeat' first
                  | refine k_then ?_ | refine c_seq ?_ | refine c_region ?_ | refine s_nil ?_ | refine s_assign (by exact rfl) (by exact rfl) ?_ | refine c_skip ?_ | refine c_ret ?_ | refine k_then_ret ?_ | refine k_blk_ret ?_ | refine c_cond_f (by exact rfl) ?_
                refine ret1 [] rfl rfl rfl ⟨congrArg (Value.int .i64) ?_, rfl⟩
                rw [rightK, if_pos h0, ← hsc, if_pos (by omega), if_neg (by omega)]
                dsimp only
                rw [if_pos (by omega)]
              · have ho2 := hb1.2.1 hbl2
                repeat' first
                  | refine p_nil ?_
                repeat' first
                  | refine k_then ?_ | refine c_seq ?_ | refine c_region ?_ | refine s_nil ?_ | refine s_assign (by exact rfl) (by exact rfl) ?_ | refine c_ret ?_ | refine k_then_ret ?_ | refine k_blk_ret ?_ | refine c_cond_t (by exact rfl) ?_
                refine ret1 [] rfl rfl rfl ⟨congrArg (Value.int .i64) ?_, rfl⟩
                rw [rightK, if_pos h0, ← hsc, if_pos (by omega), if_neg (by omega)]
                dsimp only
                rw [if_neg (by omega), if_pos (by omega)]
            · have ho := hb1.1.1 hbl
              repeat' first
                | refine p_nil ?_
                | (refine p_at (by exact rfl) ?_
                   first
                    | refine t_pick_t (by exact rfl) (by exact rfl) (by exact rfl) (by exact fun _ h => h) ?_ | refine tw_not (by exact rfl) (by exact rfl) (by exact rfl) (by exact rfl) (by exact fun _ h => h) ?_)
              repeat' first
                | refine k_then ?_ | refine c_region ?_ | refine s_nil ?_ | refine s_move (by exact rfl) (by exact rfl) ?_ | refine s_assign (by exact rfl) (by exact rfl) ?_ | refine s_add (by exact rfl) (by exact rfl) (by exact rfl) (by omega) ?_ | refine c_skip ?_ | refine k_blk ?_ | refine c_cond_f (by exact rfl) ?_
              refine c_round (k + 1) [0] (by exact rfl) (by exact ⟨rfl, rfl, trivial⟩) ⟨by omega, ?_⟩ (by omega)
              rw [← hsc, if_pos (by omega), if_neg (by omega)]
              simp only [prev, Nat.add_sub_cancel, he]
              rw [if_neg (by omega), if_neg (by omega), if_neg (by omega)]
    · repeat' first
        | refine k_then ?_ | refine c_seq ?_ | refine c_region ?_ | refine s_nil ?_ | refine s_move (by exact rfl) (by exact rfl) ?_ | refine s_assign (by exact rfl) (by exact rfl) ?_ | refine s_fa (by exact rfl) (by exact rfl) ?_ | refine s_ld_box (by exact rfl) (by exact rfl) (by exact .head _) (by exact rfl) ?_ | refine s_lss (by exact rfl) (by exact rfl) (by exact rfl) ?_ | refine s_len (by exact rfl) (by exact rfl) (by assumption) ?_ | refine c_exit ?_ | refine c_ret ?_ | refine k_then_exit ?_ | refine k_blk_eq ?_ | (refine c_cond_p (by exact rfl) (fun h => ?_) (fun h => ?_) <;> try (exfalso; omega))
      refine ret1 [] rfl rfl rfl ⟨congrArg (Value.int .i64) ?_, rfl⟩
      rw [rightK, if_pos h0, ← hsc, List.drop_eq_nil_of_le (by omega)]
      simp [scan]
theorem Light_ok (n : Int) (v : Value) (m : Nat) (k : Int) (w : World) (hs : Shp v m) (hk : 0 ≤ k ∧ k < 1000000) :
    Calls Tryz.prog 18 #[.agg #[.int .i64 n, v], .int .i64 k] w (Post w No (Just (.bool (decide (n ≤ k) && decide ((m : Int) ≤ 4 * k))))) := by
  refine enter0 (vs := [_, _]) Tryz.func18 rfl Tryz.ntmps18 rfl ?_
  repeat' first
    | refine k_then ?_ | refine c_seq ?_ | refine c_region ?_ | refine s_nil ?_ | refine s_move (by exact rfl) (by exact rfl) ?_ | refine s_assign (by exact rfl) (by exact rfl) ?_ | refine s_fa (by exact rfl) (by exact rfl) ?_ | refine s_ld_box (by exact rfl) (by exact rfl) (by exact .head _) (by exact rfl) ?_ | refine s_leq (by exact rfl) (by exact rfl) (by exact rfl) ?_ | refine s_pick_t (by exact rfl) (by exact rfl) (by exact rfl) ?_ | refine s_pick_f (by exact rfl) (by exact rfl) (by exact rfl) ?_ | refine o_box (by exact rfl) (by exact rfl) (fun b => ?_) | refine c_ret ?_ | (refine g_case (by exact rfl) (by exact rfl) (fun h => ?_) (fun h => ?_) <;> try (exfalso; omega)) | refine g_skip (by exact rfl) (by exact rfl) (by exact rfl) (by exact rfl) ?_ | refine w_move (by exact rfl) (by exact rfl) (by exact rfl) (by exact rfl) ?_ | refine w_fa (by exact rfl) (by exact rfl) (by exact rfl) (by exact rfl) ?_ | refine w_ld_box (by exact rfl) (by exact rfl) (by exact rfl) (by exact rfl) (by exact .head _) (by exact rfl) ?_ | refine w_leq (by exact rfl) (by exact rfl) (by exact rfl) (by exact rfl) (by exact rfl) ?_ | refine w_mul (by exact rfl) (by exact rfl) (by exact rfl) (by exact rfl) (by exact rfl) (by omega) ?_ | refine w_len (by exact rfl) (by exact rfl) (by exact rfl) (by exact rfl) (by assumption) ?_
  all_goals refine ret1 [] rfl rfl rfl ⟨?_, rfl⟩
  all_goals refine congrArg Value.bool ?_
  · rw [decide_eq_true h, Bool.true_and]
  · rw [decide_eq_false h, Bool.false_and]
end Go.Proofs.YtpajjnkmaebhcabGreat
end
section
namespace Go.Sl
open Go Go.RowKit
/-- rows that are read, by rows of numbers -/
structure ROs (w : World) (S : FS) (v : Value) (hs : List Value) (ls : List (List Nat)) : Prop where
  shp : Shp v ls.length
  len : hs.length = ls.length
  ro : RO w S v hs
  kid : ∀ (i : Nat) h l, hs[i]? = some h → ls[i]? = some l → Shp h l.length ∧ RO w S h (nV l)
theorem ros_own {w0 w : World} {S0 : FS} {L : List HP} {v : Value} {e : TypeId} {m : Nat} {hs : List Value} {ls : List (List Nat)} (h : St w0 S0 L w) (hL : rowHP v e 1 m hs ∈ L) (hm : m = ls.length) (hK : starHP (kids rowN hs ls) ∈ L) : ROs w No v hs ls := by
  obtain ⟨S, hsat⟩ := h.mem hL
  have hl : hs.length = m := by have := hsat.1; omega
  refine ⟨hm ▸ rowHP_shp hsat, by omega, RO.of_rd (rowHP_rd hsat), fun i x l h1 h2 => ?_⟩
  have hk : rowHP x 3 1 l.length (nV l) ∈ kids rowN hs ls := kids_mem (f := rowN) h1 h2
  obtain ⟨S, hsat⟩ := h.kid hK hk
  exact ⟨rowHP_shp hsat, RO.of_rd (rowHP_rd hsat)⟩
theorem ros_old {w0 w : World} {S0 : FS} {L : List HP} {v : Value} {hs : List Value} {ls : List (List Nat)} (h : St w0 S0 L w) (hr : ROs w0 S0 v hs ls) : ROs w No v hs ls :=
  ⟨hr.shp, hr.len, ro_old h hr.ro, fun i x l h1 h2 => ⟨(hr.kid i x l h1 h2).1, ro_old h (hr.kid i x l h1 h2).2⟩⟩
end Go.Sl
namespace Go.Proofs.YtpajjnkmaebhcabGreat
open Go.RowKit Go.Sl Fil
set_option maxRecDepth 100000
set_option maxHeartbeats 8000000
set_option linter.unusedVariables false
set_option linter.unusedSimpArgs false
attribute [local irreducible] Code.wp wpList bodyPost wpQuiet Exit.then Exit.inBlock Post wpAnyH wpOp
end Go.Proofs.YtpajjnkmaebhcabGreat
end
section
set_option linter.unusedVariables false
set_option linter.unusedSectionVars false
namespace Fil
section
variable {α β : Type}
/-- from s through l to t, step by step by p -/
def st (p : α → α) : List α → α → α → Prop
  | [], s, t => s = t
  | a :: l, s, t => s = a ∧ st p l (p a) t
theorem st_app {p : α → α} : ∀ {a b : List α} {s t : α}, st p (a ++ b) s t ↔ ∃ m, st p a s m ∧ st p b m t
  | [], b, s, t => ⟨fun h => ⟨s, rfl, h⟩, fun ⟨m, h1, h2⟩ => by cases h1; exact h2⟩
  | x :: a, b, s, t => by
    simp only [List.cons_append, st]
    rw [st_app]
    exact ⟨fun ⟨h, m, h1, h2⟩ => ⟨m, ⟨h, h1⟩, h2⟩, fun ⟨m, ⟨h, h1⟩, h2⟩ => ⟨h, m, h1, h2⟩⟩
theorem st_congr {p q : α → α} : ∀ {l : List α} {s t : α}, (∀ a ∈ l, p a = q a) → st p l s t → st q l s t
  | [], s, t, _, h => h
  | a :: l, s, t, h, ⟨h1, h2⟩ => ⟨h1, st_congr (fun b hb => h b (.tail _ hb)) (by rw [← h a (.head _)]; exact h2)⟩
/-- a cycle -/
def Cy (p : α → α) (l : List α) : Prop := l ≠ [] ∧ ∃ s, st p l s s
theorem Cy.congr {p q : α → α} {l : List α} (h : Cy p l) (hq : ∀ a ∈ l, p a = q a) : Cy q l := ⟨h.1, h.2.imp fun _ => st_congr hq⟩
theorem Cy.cons {p : α → α} {x : α} {l : List α} : Cy p (x :: l) ↔ st p l (p x) x :=
  ⟨fun ⟨_, s, h1, h2⟩ => by subst h1; exact h2, fun h => ⟨by simp, x, rfl, h⟩⟩
theorem Cy.rot {p : α → α} {a b : List α} (h : Cy p (a ++ b)) : Cy p (b ++ a) := by
  obtain ⟨h1, s, h2⟩ := h
  obtain ⟨m, h3, h4⟩ := st_app.1 h2
  exact ⟨by simp_all [and_comm], m, st_app.2 ⟨s, h4, h3⟩⟩
theorem st_in {p : α → α} {S : α → Prop} (hS : ∀ z, S z → S (p z)) : ∀ {l : List α} {s t : α}, st p l s t → S s → (∀ z ∈ l, S z) ∧ S t
  | [], s, t, h, hs => by cases h; exact ⟨by simp, hs⟩
  | a :: l, s, t, ⟨h1, h2⟩, hs => by
    subst h1
    have := st_in hS h2 (hS _ hs)
    exact ⟨fun z hz => (List.mem_cons.1 hz).elim (fun e => e ▸ hs) (this.1 z), this.2⟩
theorem Cy.in {p : α → α} {S : α → Prop} (hS : ∀ z, S z → S (p z)) {l : List α} (h : Cy p l) {a : α} (ha : a ∈ l) (hs : S a) : ∀ z ∈ l, S z := by
  obtain ⟨l1, l2, rfl⟩ := List.append_of_mem ha
  have h2 := h.rot
  rw [List.cons_append, Cy.cons] at h2
  have := (st_in hS h2 (hS _ hs)).1
  intro z hz
  rcases List.mem_append.1 hz with hz | hz
  · exact this z (List.mem_append.2 (.inr hz))
  · rcases List.mem_cons.1 hz with rfl | hz
    · exact hs
    · exact this z (List.mem_append.2 (.inl hz))
theorem Cy.shut {p : α → α} {l : List α} (h : Cy p l) {a : α} (ha : a ∈ l) : p a ∈ l := by
  obtain ⟨l1, l2, rfl⟩ := List.append_of_mem ha
  have h2 := h.rot
  rw [List.cons_append, Cy.cons] at h2
  cases hr : l2 ++ l1 with
  | nil =>
    rw [hr] at h2
    have : p a = a := h2
    rw [this]; exact ha
  | cons b r =>
    rw [hr] at h2
    have : p a = b := h2.1
    have hb : b ∈ l2 ++ l1 := by rw [hr]; exact .head _
    rw [this]
    rcases List.mem_append.1 hb with hb | hb
    · exact List.mem_append.2 (.inr (.tail _ hb))
    · exact List.mem_append.2 (.inl hb)
theorem Cy.sub {p : α → α} {l m : List α} (h : Cy p l) (hm : Cy p m) {a : α} (ha : a ∈ l) (ham : a ∈ m) : ∀ z ∈ l, z ∈ m := h.in (S := (· ∈ m)) (fun z hz => hm.shut hz) ha ham
theorem perm_of_nodup {l m : List α} (hl : l.Nodup) (hm : m.Nodup) (h : ∀ a, a ∈ l ↔ a ∈ m) : l.Perm m := by
  classical
  exact (List.perm_ext_iff_of_nodup hl hm).2 h
theorem sub_length {l m : List α} (hl : l.Nodup) (h : ∀ a ∈ l, a ∈ m) : l.length ≤ m.length := by
  classical
  induction l generalizing m with
  | nil => simp
  | cons a l ih =>
    obtain ⟨m1, m2, rfl⟩ := List.append_of_mem (h a (.head _))
    rw [List.nodup_cons] at hl
    have := ih (m := m1 ++ m2) hl.2 fun b hb => by
      have h1 := h b (.tail _ hb)
      have h2 : b ≠ a := fun e => hl.1 (e ▸ hb)
      simp only [List.mem_append, List.mem_cons, h2, false_or] at h1
      simpa using h1
    simp only [List.length_append, List.length_cons] at this ⊢
    omega
theorem perm_of_sub {l m : List α} (hl : l.Nodup) (h : ∀ a ∈ l, a ∈ m) (hm : m.length ≤ l.length) : l.Perm m := by
  classical
  induction l generalizing m with
  | nil =>
    obtain rfl : m = [] := List.eq_nil_of_length_eq_zero (by simpa using hm)
    exact .refl _
  | cons a l ih =>
    obtain ⟨m1, m2, rfl⟩ := List.append_of_mem (h a (.head _))
    rw [List.nodup_cons] at hl
    have := ih (m := m1 ++ m2) hl.2 (fun b hb => by
      have h1 := h b (.tail _ hb)
      have h2 : b ≠ a := fun e => hl.1 (e ▸ hb)
      simp only [List.mem_append, List.mem_cons, h2, false_or] at h1
      simpa using h1) (by
      simp only [List.length_append, List.length_cons] at hm ⊢
      omega)
    exact (this.cons a).trans List.perm_middle.symm
/-- all the cycles of a list -/
structure Dec (p : α → α) (ds : List α) (C : List (List α)) : Prop where
  nd : ds.Nodup
  cy : ∀ l ∈ C, Cy p l
  perm : C.flatten.Perm ds
theorem Dec.order {p : α → α} {ds : List α} {C1 C2 : List (List α)} (h : Dec p ds C1) (hp : C1.Perm C2) : Dec p ds C2 :=
  ⟨h.nd, fun l hl => h.cy l (hp.mem_iff.2 hl), hp.symm.flatten.trans h.perm⟩
theorem Dec.congr {p q : α → α} {ds : List α} {C : List (List α)} (h : Dec p ds C) (hq : ∀ a ∈ ds, p a = q a) : Dec q ds C :=
  ⟨h.nd, fun l hl => (h.cy l hl).congr fun a ha => hq a (h.perm.mem_iff.1 (List.mem_flatten.2 ⟨l, hl, ha⟩)), h.perm⟩
theorem Dec.rot {p : α → α} {ds a b : List α} {C : List (List α)} (h : Dec p ds ((a ++ b) :: C)) : Dec p ds ((b ++ a) :: C) :=
  ⟨h.nd, fun l hl => (List.mem_cons.1 hl).elim (fun e => e ▸ (h.cy _ (.head _)).rot) fun hl => h.cy l (.tail _ hl), (by
    simp only [List.flatten_cons]
    exact (List.perm_append_comm.append_right _).trans (by have := h.perm; rwa [List.flatten_cons] at this))⟩
variable [DecidableEq α]
/-- two swapped ahead -/
def swp (p : α → α) (x y z : α) : α := if z = x then p y else if z = y then p x else p z
theorem swp_x (p : α → α) (x y : α) : swp p x y x = p y := if_pos rfl
theorem swp_y {p : α → α} {x y : α} (h : x ≠ y) : swp p x y y = p x := by rw [swp, if_neg (Ne.symm h), if_pos rfl]
theorem swp_o {p : α → α} {x y z : α} (hx : z ≠ x) (hy : z ≠ y) : swp p x y z = p z := by rw [swp, if_neg hx, if_neg hy]
theorem st_swp {p : α → α} {x y : α} {l : List α} {s t : α} (hx : x ∉ l) (hy : y ∉ l) (h : st p l s t) : st (swp p x y) l s t :=
  st_congr (fun a ha => (swp_o (p := p) (x := x) (y := y) (z := a) (fun e => hx (by rw [← e]; exact ha)) (fun e => hy (by rw [← e]; exact ha))).symm) h
theorem cy_swp {p : α → α} {x y : α} {l : List α} (hx : x ∉ l) (hy : y ∉ l) (h : Cy p l) : Cy (swp p x y) l := ⟨h.1, h.2.imp fun _ => st_swp hx hy⟩
theorem Dec.split {p : α → α} {ds A B : List α} {C : List (List α)} {x y : α} (h : Dec p ds ((x :: (A ++ y :: B)) :: C)) : Dec (swp p x y) ds ((x :: B) :: (y :: A) :: C) := by
  have hp := h.perm
  have hn := hp.nodup_iff.2 h.nd
  simp only [List.flatten_cons, List.cons_append, List.append_assoc, List.nodup_cons, List.mem_append, List.mem_cons, not_or, List.nodup_append, List.mem_flatten] at hn
  have hxy : x ≠ y := hn.1.2.1
  have n1 := hn.2.2.2
  refine ⟨h.nd, fun l hl => ?_, (?_ : List.Perm _ _).trans hp⟩
  · have xA : x ∉ A := hn.1.1
    have xB : x ∉ B := hn.1.2.2.1
    have yA : y ∉ A := fun hy => n1 _ hy _ (.inl rfl) rfl
    have yB : y ∉ B := hn.2.2.1.1.1
    have c := Cy.cons.1 (h.cy _ (.head _))
    obtain ⟨m, c1, e, c2⟩ := st_app.1 c
    rw [e] at c1
    rcases List.mem_cons.1 hl with rfl | hl
    · rw [Cy.cons, swp_x]
      exact st_swp xB yB c2
    · rcases List.mem_cons.1 hl with rfl | hl
      · rw [Cy.cons, swp_y hxy]
        exact st_swp xA yA c1
      · have hx : x ∉ l := fun hx => hn.1.2.2.2 ⟨l, hl, hx⟩
        have hy : y ∉ l := fun hy => hn.2.2.1.1.2 ⟨l, hl, hy⟩
        exact cy_swp hx hy (h.cy l (.tail _ hl))
  · simp only [List.flatten_cons, List.cons_append, List.append_assoc]
    refine List.Perm.cons x ?_
    have h1 : (B ++ y :: (A ++ C.flatten)).Perm (y :: (B ++ (A ++ C.flatten))) := List.perm_middle
    have h2 : (A ++ y :: (B ++ C.flatten)).Perm (y :: (A ++ (B ++ C.flatten))) := List.perm_middle
    refine h1.trans ((List.Perm.cons y ?_).trans h2.symm)
    rw [← List.append_assoc, ← List.append_assoc]
    exact List.perm_append_comm.append_right _
def tr (F : α → α) (d : α) : Nat → α → List α
  | 0, _ => []
  | n + 1, x => x :: if F x = d then [] else tr F d n (F x)
/-- on the way -/
structure InF (F : α → α) (ds : List α) (out : List (List α)) (d : α) (f : List α) (x : α) : Prop where
  st : st F f d x
  nd : f.Nodup
  sub : ∀ z ∈ f, z ∈ ds
  new : ∀ z ∈ f, z ∉ out.flatten
  mem : x ∈ ds
  far : x ∉ out.flatten
section
variable {F : α → α} {ds : List α} {out : List (List α)} {d x : α} {f : List α}
theorem st_pred : ∀ {l : List α} {s t z : α}, st F l s t → z ∈ l → z = s ∨ ∃ w ∈ l.dropLast, F w = z
  | a :: l, s, t, z, ⟨h1, h2⟩, hz => by
    rcases List.mem_cons.1 hz with rfl | hz
    · exact .inl h1.symm
    · right
      cases l with
      | nil => simp at hz
      | cons b l =>
        rcases st_pred h2 hz with e | ⟨w, hw, e⟩
        · exact ⟨a, by simp, e.symm⟩
        · exact ⟨w, by simp [hw], e⟩
theorem st_last : ∀ {l : List α} {s t : α} (h : l ≠ []), st F l s t → F (l.getLast h) = t
  | [a], s, t, h, ⟨_, h2⟩ => h2
  | a :: b :: l, s, t, h, ⟨_, h2⟩ => by
    rw [List.getLast_cons (by simp)]
    exact st_last (by simp) h2
/-- what was met is the way's beginning -/
theorem InF.met (h : InF F ds out d f x) (hi : ∀ a ∈ ds, ∀ b ∈ ds, F a = F b → a = b) (hx : x ∈ f) : x = d := by
  rcases st_pred h.st hx with e | ⟨w, hw, e⟩
  · exact e
  · exfalso
    have hne : f ≠ [] := fun e => by rw [e] at hx; simp at hx
    have hl := st_last hne h.st
    have e2 : w = f.getLast hne := hi _ (h.sub _ (List.dropLast_subset _ hw)) _ (h.sub _ (List.getLast_mem _)) (e.trans hl.symm)
    have := h.nd
    rw [← List.dropLast_concat_getLast hne, List.nodup_append] at this
    exact this.2.2 w hw (f.getLast hne) (by simp) e2
theorem InF.more (h : InF F ds out d f x) (hi : ∀ a ∈ ds, ∀ b ∈ ds, F a = F b → a = b) (hm : ∀ a ∈ ds, F a ∈ ds) (hc : ∀ l ∈ out, Cy F l) (ho : ∀ z ∈ out.flatten, z ∈ ds) (hne : f = [] ∨ x ≠ d) : x ∉ f ∧ InF F ds out d (f ++ [x]) (F x) := by
  have hx : x ∉ f := fun hx => by
    rcases hne with rfl | hne
    · simp at hx
    · exact hne (h.met hi hx)
  refine ⟨hx, st_app.2 ⟨x, h.st, rfl, rfl⟩, List.nodup_append.2 ⟨h.nd, by simp, fun a ha b hb e => by
    obtain rfl : b = x := by simpa using hb
    exact hx (e ▸ ha)⟩, fun z hz => ?_, fun z hz => ?_, hm _ h.mem, fun hf => ?_⟩
  · rcases List.mem_append.1 hz with hz | hz
    · exact h.sub z hz
    · obtain rfl : z = x := by simpa using hz
      exact h.mem
  · rcases List.mem_append.1 hz with hz | hz
    · exact h.new z hz
    · obtain rfl : z = x := by simpa using hz
      exact h.far
  · obtain ⟨l, hl, hz⟩ := List.mem_flatten.1 hf
    refine h.far ?_
    have hc1 := hc l hl
    obtain ⟨l1, l2, rfl⟩ := List.append_of_mem hz
    have hr := hc1.rot
    rw [List.cons_append] at hr
    have hs : Fil.st F (F x :: (l2 ++ l1)) (F x) (F x) := ⟨rfl, Cy.cons.1 hr⟩
    have hlast := st_last (by simp) hs
    have hmem : (F x :: (l2 ++ l1)).getLast (by simp) ∈ l1 ++ F x :: l2 := by
      have := List.getLast_mem (l := F x :: (l2 ++ l1)) (by simp)
      simp only [List.mem_cons, List.mem_append] at this ⊢
      rcases this with h | h | h
      · exact .inr (.inl h)
      · exact .inr (.inr h)
      · exact .inl h
    have hin : (F x :: (l2 ++ l1)).getLast (by simp) ∈ out.flatten := List.mem_flatten.2 ⟨_, hl, hmem⟩
    rwa [hi _ (ho _ hin) _ h.mem hlast] at hin
theorem InF.room (h : InF F ds out d f x) (hx : x ∉ f) : f.length + 1 ≤ ds.length := by
  have : (f ++ [x]).Nodup := List.nodup_append.2 ⟨h.nd, by simp, fun a ha b hb e => by
    obtain rfl : b = x := by simpa using hb
    exact hx (e ▸ ha)⟩
  have := sub_length this fun z hz => by
    rcases List.mem_append.1 hz with hz | hz
    · exact h.sub z hz
    · obtain rfl : z = x := by simpa using hz
      exact h.mem
  simpa using this
/-- the whole way -/
theorem InF.all (hi : ∀ a ∈ ds, ∀ b ∈ ds, F a = F b → a = b) (hm : ∀ a ∈ ds, F a ∈ ds) (hc : ∀ l ∈ out, Cy F l) (ho : ∀ z ∈ out.flatten, z ∈ ds) : ∀ (n : Nat) {f : List α} {x : α}, InF F ds out d f x → (f = [] ∨ x ≠ d) → ds.length ≤ f.length + n →
    InF F ds out d (f ++ tr F d n x) d ∧ f ++ tr F d n x ≠ []
  | 0, f, x, h, hne, hn => by
    have := h.room (h.more hi hm hc ho hne).1
    omega
  | n + 1, f, x, h, hne, hn => by
    obtain ⟨_, h1⟩ := h.more hi hm hc ho hne
    rw [tr]
    split
    · rename_i e
      rw [e] at h1
      exact ⟨h1, by simp⟩
    · rename_i e
      have := InF.all hi hm hc ho n h1 (.inr e) (by simp; omega)
      simp only [List.append_assoc, List.cons_append, List.nil_append] at this
      exact this
end
def facesStep (F : α → α) (n : Nat) (out : List (List α)) (d : α) : List (List α) := if d ∈ out.flatten then out else out ++ [tr F d n d]
def facesL (F : α → α) (n : Nat) (ds : List α) : List (List α) := ds.foldl (facesStep F n) []
structure Fs (F : α → α) (ds : List α) (out : List (List α)) : Prop where
  cy : ∀ l ∈ out, Cy F l
  nd : out.flatten.Nodup
  sub : ∀ z ∈ out.flatten, z ∈ ds
theorem Fs.start {F : α → α} {ds : List α} {out : List (List α)} {d : α} (h : Fs F ds out) (hd : d ∈ ds) (hf : d ∉ out.flatten) : InF F ds out d [] d := ⟨rfl, by simp, by simp, by simp, hd, hf⟩
theorem Fs.step {F : α → α} {ds : List α} {out : List (List α)} {d : α} {n : Nat} (hi : ∀ a ∈ ds, ∀ b ∈ ds, F a = F b → a = b) (hm : ∀ a ∈ ds, F a ∈ ds) (hn : ds.length ≤ n) (h : Fs F ds out) (hd : d ∈ ds) :
    Fs F ds (facesStep F n out d) ∧ d ∈ (facesStep F n out d).flatten ∧ ∀ z ∈ out.flatten, z ∈ (facesStep F n out d).flatten := by
  unfold facesStep
  split
  · rename_i hf
    exact ⟨h, hf, fun _ h => h⟩
  · rename_i hf
    obtain ⟨h1, hne⟩ := InF.all hi hm h.cy h.sub n (h.start hd hf) (.inl rfl) (by simpa using hn)
    simp only [List.nil_append] at h1 hne
    have hdin : d ∈ tr F d n d := by
      cases n with
      | zero => simp [tr] at hne
      | succ n => simp [tr]
    refine ⟨⟨fun l hl => ?_, ?_, fun z hz => ?_⟩, ?_, fun z hz => ?_⟩
    · rcases List.mem_append.1 hl with hl | hl
      · exact h.cy l hl
      · obtain rfl : l = tr F d n d := by simpa using hl
        exact ⟨hne, d, h1.st⟩
    · rw [List.flatten_append, List.nodup_append]
      refine ⟨h.nd, by simpa using h1.nd, fun a ha b hb e => ?_⟩
      simp only [List.flatten_cons, List.flatten_nil, List.append_nil] at hb
      exact h1.new b hb (e ▸ ha)
    · rw [List.flatten_append, List.mem_append] at hz
      rcases hz with hz | hz
      · exact h.sub z hz
      · exact h1.sub z (by simpa using hz)
    · simp [hdin]
    · rw [List.flatten_append, List.mem_append]
      exact .inl hz
theorem Fs.fold {F : α → α} {ds : List α} {n : Nat} (hi : ∀ a ∈ ds, ∀ b ∈ ds, F a = F b → a = b) (hm : ∀ a ∈ ds, F a ∈ ds) (hn : ds.length ≤ n) : ∀ (l : List α) (out : List (List α)), Fs F ds out → (∀ z ∈ l, z ∈ ds) →
    Fs F ds (l.foldl (facesStep F n) out) ∧ (∀ z ∈ l, z ∈ (l.foldl (facesStep F n) out).flatten) ∧ ∀ z ∈ out.flatten, z ∈ (l.foldl (facesStep F n) out).flatten
  | [], out, h, _ => ⟨h, by simp, fun _ h => h⟩
  | d :: l, out, h, hl => by
    obtain ⟨h1, h2, h3⟩ := h.step hi hm hn (hl d (.head _))
    obtain ⟨h4, h5, h6⟩ := Fs.fold hi hm hn l _ h1 fun z hz => hl z (.tail _ hz)
    exact ⟨h4, fun z hz => (List.mem_cons.1 hz).elim (fun e => h6 _ (e ▸ h2)) (h5 z), fun z hz => h6 z (h3 z hz)⟩
theorem faces_dec {F : α → α} {ds : List α} {n : Nat} (hd : ds.Nodup) (hi : ∀ a ∈ ds, ∀ b ∈ ds, F a = F b → a = b) (hm : ∀ a ∈ ds, F a ∈ ds) (hn : ds.length ≤ n) : Dec F ds (facesL F n ds) := by
  obtain ⟨h1, h2, _⟩ := Fs.fold hi hm hn ds [] ⟨by simp, by simp, by simp⟩ fun _ h => h
  exact ⟨hd, h1.cy, perm_of_nodup h1.nd hd fun z => ⟨h1.sub z, h2 z⟩⟩
end
end Fil
end
section
set_option linter.unusedVariables false
set_option linter.unusedSectionVars false
namespace Fil
def rev (d : (Nat × Nat)) : (Nat × Nat) := (d.2, d.1)
/-- the one behind, around -/
def cyc (l : List Nat) (u : Nat) : Nat := l.getD ((l.idxOf u + 1) % l.length) 0
def sg (R : Nat → List Nat) (d : (Nat × Nat)) : (Nat × Nat) := (d.1, cyc (R d.1) d.2)
def nxt (R : Nat → List Nat) (d : (Nat × Nat)) : (Nat × Nat) := (d.2, cyc (R d.2) d.1)
def vc (R : Nat → List Nat) (v : Nat) : List (Nat × Nat) := (R v).map fun u => (v, u)
def dartsOf (R : Nat → List Nat) (c : List Nat) : List (Nat × Nat) := c.flatMap (vc R)
structure Sys (l : List (Nat × Nat)) (R : Nat → List Nat) : Prop where
  nd : ∀ v, (R v).Nodup
  ed : ∀ u v, u ∈ R v ↔ (v, u) ∈ l ∨ (u, v) ∈ l
  lt : ∀ e ∈ l, e.1 < e.2
  ndl : l.Nodup
theorem cyc_at {l : List Nat} (h : l.Nodup) {i : Nat} (hi : i < l.length) : cyc l l[i] = l[(i + 1) % l.length]'(Nat.mod_lt _ (by omega)) := by
  have hm : (i + 1) % l.length < l.length := Nat.mod_lt _ (by omega)
  rw [cyc, h.idxOf_getElem i hi, List.getD_eq_getElem?_getD, List.getElem?_eq_getElem hm, Option.getD_some]
theorem cyc_mem {l : List Nat} {u : Nat} (hu : u ∈ l) : cyc l u ∈ l := by
  have hm : (l.idxOf u + 1) % l.length < l.length := Nat.mod_lt _ (List.length_pos_of_mem hu)
  rw [cyc, List.getD_eq_getElem?_getD, List.getElem?_eq_getElem hm, Option.getD_some]
  exact List.getElem_mem _
theorem cyc_inj {l : List Nat} (h : l.Nodup) {a b : Nat} (ha : a ∈ l) (hb : b ∈ l) (e : cyc l a = cyc l b) : a = b := by
  obtain ⟨i, hi, rfl⟩ := List.getElem_of_mem ha
  obtain ⟨j, hj, rfl⟩ := List.getElem_of_mem hb
  rw [cyc_at h hi, cyc_at h hj] at e
  have := congrArg l.idxOf e
  rw [h.idxOf_getElem, h.idxOf_getElem] at this
  have hi' : (i + 1) % l.length = if i + 1 = l.length then 0 else i + 1 := by
    split
    · rename_i h; rw [h, Nat.mod_self]
    · exact Nat.mod_eq_of_lt (by omega)
  have hj' : (j + 1) % l.length = if j + 1 = l.length then 0 else j + 1 := by
    split
    · rename_i h; rw [h, Nat.mod_self]
    · exact Nat.mod_eq_of_lt (by omega)
  rw [hi', hj'] at this
  have hij : i = j := by
    split at this <;> split at this <;> omega
  subst hij
  rfl
theorem mem_vc {R : Nat → List Nat} {v : Nat} {d : (Nat × Nat)} : d ∈ vc R v ↔ d.1 = v ∧ d.2 ∈ R v := by
  rw [vc, List.mem_map]
  exact ⟨fun ⟨u, hu, e⟩ => e ▸ ⟨rfl, hu⟩, fun ⟨e, h⟩ => ⟨d.2, h, by rw [← e]⟩⟩
theorem mem_darts {R : Nat → List Nat} {c : List Nat} {d : (Nat × Nat)} : d ∈ dartsOf R c ↔ d.1 ∈ c ∧ d.2 ∈ R d.1 := by
  rw [dartsOf, List.mem_flatMap]
  exact ⟨fun ⟨v, hv, h⟩ => by obtain ⟨e, h⟩ := mem_vc.1 h; rw [e]; exact ⟨hv, h⟩, fun ⟨h1, h2⟩ => ⟨d.1, h1, mem_vc.2 ⟨rfl, h2⟩⟩⟩
theorem darts_nodup {l : List (Nat × Nat)} {R : Nat → List Nat} (hS : Sys l R) : ∀ {c : List Nat}, c.Nodup → (dartsOf R c).Nodup
  | [], _ => by simp [dartsOf]
  | v :: c, h => by
    rw [List.nodup_cons] at h
    rw [dartsOf, List.flatMap_cons, List.nodup_append]
    refine ⟨?_, darts_nodup hS h.2, fun a ha b hb e => ?_⟩
    · rw [vc, List.Nodup, List.pairwise_map]
      exact (hS.nd v).imp fun h e => h (Prod.mk.inj e).2
    · subst e
      have h1 := (mem_vc.1 ha).1
      have h2 := (mem_darts.1 hb).1
      exact h.1 (h1 ▸ h2)
theorem Sys.sym {l : List (Nat × Nat)} {R : Nat → List Nat} (hS : Sys l R) {u v : Nat} (h : u ∈ R v) : v ∈ R u := (hS.ed v u).2 ((hS.ed u v).1 h).symm
theorem Sys.ne {l : List (Nat × Nat)} {R : Nat → List Nat} (hS : Sys l R) {u v : Nat} (h : u ∈ R v) : u ≠ v := by
  rcases (hS.ed u v).1 h with h | h <;> have := hS.lt _ h <;> simp at this <;> omega
/-- around the vertices, but over these edges -/
def pS (R : Nat → List Nat) (S : List (Nat × Nat)) (d : (Nat × Nat)) : (Nat × Nat) := if d ∈ S ∨ rev d ∈ S then sg R (rev d) else sg R d
/-- each vertex but the first is next to one ahead -/
def Grow (R : Nat → List Nat) (c : List Nat) : Prop := ∀ A w B, c = A ++ w :: B → A ≠ [] → ∃ v ∈ A, w ∈ R v
structure Tree (l : List (Nat × Nat)) (R : Nat → List Nat) (c : List Nat) (k : Nat) (S : List (Nat × Nat)) (big : List (Nat × Nat)) : Prop where
  nd : S.Nodup
  inl : ∀ e ∈ S, e ∈ l ∧ e.1 ∈ c.take k ∧ e.2 ∈ c.take k
  len : S.length + 1 = k
  dec : Dec (pS R S) (dartsOf R c) (big :: (c.drop k).map (vc R))
  big : ∀ d, d ∈ big ↔ d ∈ dartsOf R (c.take k)
  con : ∀ f : Nat → Nat, (∀ e ∈ S, f e.1 = f e.2) → ∀ u ∈ c.take k, ∀ v ∈ c.take k, f u = f v
theorem nxt_inj {l : List (Nat × Nat)} {R : Nat → List Nat} {c : List Nat} (hS : Sys l R) : ∀ a ∈ dartsOf R c, ∀ b ∈ dartsOf R c, nxt R a = nxt R b → a = b := by
  intro a ha b hb e
  obtain ⟨e1, e2⟩ := Prod.mk.inj e
  rw [← e1] at e2
  have m1 := hS.sym (mem_darts.1 ha).2
  have m2 := hS.sym (mem_darts.1 hb).2
  rw [← e1] at m2
  exact Prod.ext (cyc_inj (hS.nd _) m1 m2 e2) e1
theorem nxt_mem {l : List (Nat × Nat)} {R : Nat → List Nat} {c : List Nat} (hS : Sys l R) (hcl : ∀ v ∈ c, ∀ u ∈ R v, u ∈ c) : ∀ a ∈ dartsOf R c, nxt R a ∈ dartsOf R c := by
  intro a ha
  obtain ⟨h1, h2⟩ := mem_darts.1 ha
  exact mem_darts.2 ⟨hcl _ h1 _ h2, cyc_mem (hS.sym h2)⟩
end Fil
end
section
namespace Fil
/-- the lists of those of the labels below i -/
def compsL (N i : Nat) (met : List Bool) (lab : Nat → Nat) : List (List Nat) := ((List.range i).filter fun v => lab v == v).map fun r => (List.range N).filter fun u => met.getD u false && lab u == r
theorem comps_upd {N i : Nat} {met met' : List Bool} {lab lab' : Nat → Nat} (h1 : ∀ u, met.getD u false = true → met'.getD u false = true ∧ lab' u = lab u) (h2 : ∀ u, met'.getD u false = true → met.getD u false = false → lab' u = i) (h3 : ∀ v, v < i → met.getD v false = true) : compsL N i met' lab' = compsL N i met lab := by
  have e1 : (List.range i).filter (fun v => lab' v == v) = (List.range i).filter fun v => lab v == v := by
    apply List.filter_congr
    intro v hv
    rw [(h1 v (h3 v (by simpa using hv))).2]
  rw [compsL, e1, compsL]
  apply List.map_congr_left
  intro r hr
  have hri : r < i := by
    have := (List.mem_filter.1 hr).1
    simpa using this
  apply List.filter_congr
  intro u _
  cases hm : met.getD u false
  · cases hm' : met'.getD u false
    · simp
    · have := h2 u hm' hm
      simp only [Bool.true_and, Bool.false_and, this]
      simp; omega
  · obtain ⟨h4, h5⟩ := h1 u hm
    rw [h4, h5]
theorem comps_next {N i : Nat} {met : List Bool} {lab : Nat → Nat} (h : lab i ≠ i) : compsL N (i + 1) met lab = compsL N i met lab := by
  have : (lab i == i) = false := by simpa using h
  rw [compsL, List.range_succ, List.filter_append]
  simp [this, compsL]
/-- a list of just those of label i, sorted -/
theorem sorted_of {N i : Nat} {met : List Bool} {lab : Nat → Nat} {part : List Nat} (hn : part.Nodup) (hp : ∀ u, u ∈ part ↔ u < N ∧ met.getD u false = true ∧ lab u = i) : part.mergeSort (fun x y => decide (x ≤ y)) = (List.range N).filter fun u => met.getD u false && lab u == i := by
  refine List.Perm.eq_of_pairwise (le := fun a b => a ≤ b) (fun a b _ _ h1 h2 => Nat.le_antisymm h1 h2) ?_ ?_ ?_
  · have := List.pairwise_mergeSort (le := fun (x y : Nat) => decide (x ≤ y)) (fun a b c h1 h2 => by simp at *; omega) (fun a b => by simp; omega) part
    exact this.imp fun h => by simpa using h
  · exact (List.pairwise_lt_range.imp fun h => Nat.le_of_lt h).filter _
  · refine (List.mergeSort_perm part _).trans ((List.perm_ext_iff_of_nodup hn (List.nodup_range.filter _)).2 fun u => ?_)
    rw [hp]
    simp
theorem comps_add {N i : Nat} {met : List Bool} {lab : Nat → Nat} {part : List Nat} (hi : lab i = i) (hn : part.Nodup) (hp : ∀ u, u ∈ part ↔ u < N ∧ met.getD u false = true ∧ lab u = i) : compsL N (i + 1) met lab = compsL N i met lab ++ [part.mergeSort fun x y => decide (x ≤ y)] := by
  rw [sorted_of hn hp, compsL, List.range_succ, List.filter_append]
  simp [hi, compsL]
/-- part: just those that were met from i on -/
structure Part (N i : Nat) (met : List Bool) (lab : Nat → Nat) (part : List Nat) : Prop where
  nodup : part.Nodup
  mem : ∀ u, u ∈ part ↔ u < N ∧ met.getD u false = true ∧ lab u = i
  le : ∀ u, met.getD u false = true → lab u ≤ i
theorem Part.start {N i : Nat} {met : List Bool} {lab : Nat → Nat} (hi : i < N) (hl : met.length = N) (hL : ∀ v, met.getD v false = true → lab v < i) : Part N i (met.set i true) (fun x => if x = i then i else lab x) [i] where
  nodup := by simp
  mem u := by
    rw [getD_set]
    by_cases e : u = i
    · subst e; simp [hi, hl]
    · have e' : ¬ i = u := fun h => e h.symm
      simp only [List.mem_singleton, e, e', false_and, if_false, false_iff]
      rintro ⟨h1, h2, h3⟩
      have := hL u h2
      omega
  le u hu := by
    rw [getD_set] at hu
    split
    · exact Nat.le_refl _
    · rename_i e
      rw [if_neg (by omega)] at hu
      exact Nat.le_of_lt (hL u hu)
theorem Part.new {N i u : Nat} {met : List Bool} {lab : Nat → Nat} {part : List Nat} (h : Part N i met lab part) (hu : u < N) (hl : met.length = N) (hm : met.getD u false = false) : Part N i (met.set u true) (fun x => if x = u then i else lab x) (part ++ [u]) where
  nodup := by
    refine List.nodup_append.2 ⟨h.nodup, by simp, ?_⟩
    intro a ha b hb e
    obtain rfl : b = u := by simpa using hb
    subst e
    have := ((h.mem a).1 ha).2.1
    rw [hm] at this; simp at this
  mem x := by
    rw [getD_set, List.mem_append, h.mem]
    by_cases e : x = u
    · subst e; simp [hu, hl]
    · have e' : ¬ u = x := fun h => e h.symm
      simp [e, e']
  le x hx := by
    rw [getD_set] at hx
    split
    · exact Nat.le_refl _
    · rename_i e
      rw [if_neg (by omega)] at hx
      exact h.le x hx
theorem comps_step {N i u : Nat} {met : List Bool} {lab : Nat → Nat} (hm : met.getD u false = false) (h3 : ∀ v, v < i → met.getD v false = true) : compsL N i (met.set u true) (fun x => if x = u then i else lab x) = compsL N i met lab := by
  refine comps_upd (fun x hx => ?_) (fun x hx hx' => ?_) h3
  · have : x ≠ u := fun e => by subst e; rw [hm] at hx; simp at hx
    refine ⟨?_, by simp [this]⟩
    rw [getD_set]
    split <;> first | rfl | exact hx
  · rw [getD_set] at hx
    split at hx
    · rename_i h; simp [h.1]
    · rw [hx'] at hx; simp at hx
theorem Part.length_le {N i : Nat} {met : List Bool} {lab : Nat → Nat} {part : List Nat} (h : Part N i met lab part) : part.length ≤ N := by
  have hp := (List.perm_ext_iff_of_nodup h.nodup (List.nodup_range.filter fun u => met.getD u false && lab u == i) (l₂ := (List.range N).filter fun u => met.getD u false && lab u == i)).2 fun u => by
    rw [h.mem]; simp
  have h1 := hp.length_eq
  have h2 := List.length_filter_le (fun u => met.getD u false && lab u == i) (List.range N)
  rw [List.length_range] at h2
  omega
theorem compsL_length (N i : Nat) (met : List Bool) (lab : Nat → Nat) : (compsL N i met lab).length ≤ i := by
  rw [compsL, List.length_map]
  have := List.length_filter_le (fun v => lab v == v) (List.range i)
  rwa [List.length_range] at this
end Fil
end
section
namespace Fil
theorem RightG.filter {n : Int} {es : List E} (h : RightG n es) (p : E → Bool) : RightG n (es.filter p) where
  lo := h.lo
  hi := h.hi
  many := Nat.le_trans (List.length_filter_le _ _) h.many
  ok e he := h.ok e (List.mem_filter.1 he).1
  sorted := h.sorted.filter _
/-- two ways of labelling are one -/
theorem Lev.lab_eq {N : Nat} {A : Nat → List Nat} {o o' lab lab' : Nat → Nat} (h : Lev N A o lab) (h' : Lev N A o' lab') : ∀ v, v < N → lab v = lab' v := by
  have key : ∀ {o o' lab lab' : Nat → Nat}, Lev N A o lab → Lev N A o' lab' → ∀ v, v < N → lab v ≤ lab' v := by
    intro o o' lab lab' h h' v hv
    have h1 := h'.conn v hv lab (fun w hw u hu => (h.edge w hw u hu).1)
    have h2 := h'.le v hv
    have h3 := h.le (lab' v) (by omega)
    omega
  intro v hv
  exact Nat.le_antisymm (key h h' v hv) (key h' h v hv)
theorem Lev.o_le {N : Nat} {A : Nat → List Nat} {o o' lab lab' : Nat → Nat} (hA : Adj N A) (h : Lev N A o lab) (h' : Lev N A o' lab') : ∀ k v, v < N → o' v = k → o v ≤ k := by
  intro k
  induction k with
  | zero =>
    intro v hv hk
    have h1 := (h'.root v hv).1 hk
    rw [← h.lab_eq h' v hv] at h1
    have := (h.root v hv).2 h1
    omega
  | succ k ih =>
    intro v hv hk
    obtain ⟨u, hu, huk⟩ := h'.up v k hv hk
    have hun := hA.lt v hv u hu
    have := ih u hun huk
    have := (h.edge u hun v (hA.sym v u hv hu)).2
    omega
theorem Lev.o_eq {N : Nat} {A : Nat → List Nat} {o o' lab lab' : Nat → Nat} (hA : Adj N A) (h : Lev N A o lab) (h' : Lev N A o' lab') : ∀ v, v < N → o v = o' v :=
  fun v hv => Nat.le_antisymm (h.o_le hA h' _ v hv rfl) (h'.o_le hA h _ v hv rfl)
end Fil
end
section
namespace Fil
def relaxL (l : List Nat) (e : Nat × Nat) : List Nat := (l.set e.1 (min (l.getD e.1 0) (l.getD e.2 0))).set e.2 (min (l.getD e.1 0) (l.getD e.2 0))
/-- as the code has it: the lesser of an end's level and one more than the other's -/
def relaxO (l : List Nat) (e : Nat × Nat) : List Nat :=
  let l1 := l.set e.1 (min (l.getD e.1 0) (l.getD e.2 0 + 1))
  l1.set e.2 (min (l1.getD e.2 0) (l1.getD e.1 0 + 1))
def rounds (f : List Nat → Nat × Nat → List Nat) (es : List (Nat × Nat)) : Nat → List Nat → List Nat
  | 0, l => l
  | k + 1, l => es.foldl f (rounds f es k l)
/-- what a step keeps and gives, said of values t: where R a b, an exact a gives an exact b -/
structure Relax (N : Nat) (f : List Nat → Nat × Nat → List Nat) (t : Nat → Nat) (es : List (Nat × Nat)) (R : Nat → Nat → Prop) : Prop where
  len : ∀ l e, (f l e).length = l.length
  ge : ∀ l, l.length = N → ∀ e ∈ es, (∀ v, v < N → t v ≤ l.getD v 0) → ∀ v, v < N → t v ≤ (f l e).getD v 0
  le : ∀ l e v, (f l e).getD v 0 ≤ l.getD v 0
  give : ∀ l, l.length = N → ∀ e ∈ es, (∀ v, v < N → t v ≤ l.getD v 0) → ∀ a b, e = (a, b) ∨ e = (b, a) → R a b → l.getD a 0 = t a → (f l e).getD b 0 = t b
theorem Relax.keep {N : Nat} {f : List Nat → Nat × Nat → List Nat} {t : Nat → Nat} {es : List (Nat × Nat)} {R : Nat → Nat → Prop} (h : Relax N f t es R) : ∀ (r : List (Nat × Nat)), (∀ e ∈ r, e ∈ es) → ∀ l, l.length = N → (∀ v, v < N → t v ≤ l.getD v 0) →
    (r.foldl f l).length = N ∧ (∀ v, v < N → t v ≤ (r.foldl f l).getD v 0) ∧ ∀ v, v < N → l.getD v 0 = t v → (r.foldl f l).getD v 0 = t v
  | [], _, l, hl, hg => ⟨hl, hg, fun _ _ h => h⟩
  | e :: r, hr, l, hl, hg => by
    have hg' := h.ge l hl e (hr e (by simp)) hg
    obtain ⟨h1, h2, h3⟩ := h.keep r (fun x hx => hr x (by simp [hx])) (f l e) (by rw [h.len, hl]) hg'
    refine ⟨h1, h2, fun v hv hx => h3 v hv ?_⟩
    have := hg' v hv
    have := h.le l e v
    omega
theorem Relax.gives {N : Nat} {f : List Nat → Nat × Nat → List Nat} {t : Nat → Nat} {es : List (Nat × Nat)} {R : Nat → Nat → Prop} (h : Relax N f t es R) {a b : Nat} (ha : a < N) (hb : b < N) (hR : R a b) : ∀ (r : List (Nat × Nat)), (∀ e ∈ r, e ∈ es) → ∀ l, l.length = N → (∀ v, v < N → t v ≤ l.getD v 0) → ((a, b) ∈ r ∨ (b, a) ∈ r) → l.getD a 0 = t a → (r.foldl f l).getD b 0 = t b
  | [], _, _, _, _, hm, _ => by simp at hm
  | e :: r, hr, l, hl, hg, hm, hx => by
    have hg' := h.ge l hl e (hr e (by simp)) hg
    have hl' : (f l e).length = N := by rw [h.len, hl]
    have hr' : ∀ x ∈ r, x ∈ es := fun x hx => hr x (by simp [hx])
    by_cases he : e = (a, b) ∨ e = (b, a)
    · exact (h.keep r hr' (f l e) hl' hg').2.2 b hb (h.give l hl e (hr e (by simp)) hg a b he hR hx)
    · refine h.gives ha hb hR r hr' (f l e) hl' hg' ?_ ?_
      · rcases hm with hm | hm
        · rcases List.mem_cons.1 hm with h1 | h1
          · exact absurd (.inl h1.symm) he
          · exact .inl h1
        · rcases List.mem_cons.1 hm with h1 | h1
          · exact absurd (.inr h1.symm) he
          · exact .inr h1
      · have := hg' a ha
        have := h.le l e a
        omega
theorem Relax.rounds {N : Nat} {f : List Nat → Nat × Nat → List Nat} {t o : Nat → Nat} {es : List (Nat × Nat)} {R : Nat → Nat → Prop} (h : Relax N f t es R) {l : List Nat} (hl : l.length = N) (hg : ∀ v, v < N → t v ≤ l.getD v 0) (h0 : ∀ v, v < N → o v = 0 → l.getD v 0 = t v)
    (hs : ∀ v k, v < N → o v = k + 1 → ∃ u, u < N ∧ o u = k ∧ R u v ∧ ((u, v) ∈ es ∨ (v, u) ∈ es)) : ∀ k, (Fil.rounds f es k l).length = N ∧ (∀ v, v < N → t v ≤ (Fil.rounds f es k l).getD v 0) ∧ ∀ v, v < N → o v ≤ k → (Fil.rounds f es k l).getD v 0 = t v
  | 0 => ⟨hl, hg, fun v hv hk => h0 v hv (by omega)⟩
  | k + 1 => by
    obtain ⟨h1, h2, h3⟩ := h.rounds hl hg h0 hs k
    obtain ⟨h4, h5, h6⟩ := h.keep es (fun _ h => h) _ h1 h2
    refine ⟨h4, h5, fun v hv hk => ?_⟩
    by_cases e : o v ≤ k
    · exact h6 v hv (h3 v hv e)
    · obtain ⟨u, hu, hok, hR, hm⟩ := hs v k hv (by omega)
      exact h.gives hu hv hR es (fun _ h => h) _ h1 h2 hm (h3 u hu (by omega))
theorem relaxL_at (l : List Nat) (a b v : Nat) (ha : a < l.length) (hb : b < l.length) : (relaxL l (a, b)).getD v 0 = if v = a ∨ v = b then min (l.getD a 0) (l.getD b 0) else l.getD v 0 := by
  simp only [relaxL, getD_set, List.length_set]
  by_cases h1 : b = v
  · subst h1; simp [hb]
  · by_cases h2 : a = v
    · subst h2; simp [h1, ha]
    · have h1' : ¬ v = b := fun e => h1 e.symm
      have h2' : ¬ v = a := fun e => h2 e.symm
      simp [h1, h2, h1', h2']
theorem relaxL_le (l : List Nat) (e : Nat × Nat) (v : Nat) : (relaxL l e).getD v 0 ≤ l.getD v 0 := by
  simp only [relaxL, getD_set, List.length_set]
  split
  · rename_i h; obtain ⟨rfl, _⟩ := h; exact Nat.min_le_right _ _
  · split
    · rename_i h; obtain ⟨rfl, _⟩ := h; exact Nat.min_le_left _ _
    · exact Nat.le_refl _
theorem Good.edge_mem {N : Nat} {es : List (Nat × Nat)} (h : Good N es) {a b : Nat} (he : (a, b) ∈ es) : b ∈ nb es a ∧ a ∈ nb es b := by
  have hl : ∀ e ∈ es, e.1 ≠ e.2 := fun e he => by have := h.lt e he; omega
  rw [mem_nb hl, mem_nb hl]
  exact ⟨.inl he, .inr he⟩
theorem relaxL_ok {N : Nat} {es : List (Nat × Nat)} {o lab : Nat → Nat} (hG : Good N es) (h : Lev N (nb es) o lab) : Relax N relaxL lab es fun _ _ => True where
  len l e := by simp [relaxL]
  le := relaxL_le
  ge l hl e he hg v hv := by
    obtain ⟨a, b⟩ := e
    have := hG.lt _ he
    dsimp only at this
    have ha := hg a (by omega)
    have hb := hg b (by omega)
    have hab := (h.edge a (by omega) b (hG.edge_mem he).1).1
    rw [relaxL_at l a b v (by omega) (by omega)]
    split
    · rename_i hv'
      rcases hv' with rfl | rfl <;> omega
    · exact hg v hv
  give l hl e he hg a b hab _ hx := by
    have key : ∀ x y, (x, y) ∈ es → ((x = a ∧ y = b) ∨ (x = b ∧ y = a)) → (relaxL l (x, y)).getD b 0 = lab b := by
      intro x y hxy hh
      have := hG.lt _ hxy
      dsimp only at this
      have h1 := hg x (by omega)
      have h2 := hg y (by omega)
      have h3 := (h.edge x (by omega) y (hG.edge_mem hxy).1).1
      rw [relaxL_at l x y b (by omega) (by omega)]
      rcases hh with ⟨rfl, rfl⟩ | ⟨rfl, rfl⟩
      · rw [if_pos (.inr rfl)]; omega
      · rw [if_pos (.inl rfl)]; omega
    rcases hab with rfl | rfl
    · exact key a b he (.inl ⟨rfl, rfl⟩)
    · exact key b a he (.inr ⟨rfl, rfl⟩)
theorem relaxO_at (l : List Nat) (a b v : Nat) (ha : a < l.length) (hb : b < l.length) (hab : a ≠ b) : (relaxO l (a, b)).getD v 0 = if v = a then min (l.getD a 0) (l.getD b 0 + 1) else if v = b then min (l.getD b 0) (min (l.getD a 0) (l.getD b 0 + 1) + 1) else l.getD v 0 := by
  simp only [relaxO, getD_set, List.length_set]
  by_cases h1 : v = a
  · subst h1
    have : ¬ b = v := fun e => hab e.symm
    simp [this, ha]
  · have h1' : ¬ a = v := fun e => h1 e.symm
    by_cases h2 : v = b
    · subst h2
      simp [h1, h1', ha, hb]
    · have h2' : ¬ b = v := fun e => h2 e.symm
      simp [h1, h2, h1', h2']
theorem relaxO_le (l : List Nat) (e : Nat × Nat) (v : Nat) : (relaxO l e).getD v 0 ≤ l.getD v 0 := by
  have h1 : (l.set e.1 (min (l.getD e.1 0) (l.getD e.2 0 + 1))).getD v 0 ≤ l.getD v 0 := by
    rw [getD_set]
    split
    · rename_i h; obtain ⟨rfl, _⟩ := h; exact Nat.min_le_left _ _
    · exact Nat.le_refl _
  refine Nat.le_trans ?_ h1
  simp only [relaxO]
  generalize l.set e.1 (min (l.getD e.1 0) (l.getD e.2 0 + 1)) = l1
  rw [getD_set]
  split
  · rename_i h; obtain ⟨rfl, _⟩ := h; exact Nat.min_le_left _ _
  · exact Nat.le_refl _
theorem relaxO_ok {N : Nat} {es : List (Nat × Nat)} {o lab : Nat → Nat} (hG : Good N es) (h : Lev N (nb es) o lab) : Relax N relaxO o es fun a b => o b = o a + 1 where
  len l e := by simp [relaxO]
  le := relaxO_le
  ge l hl e he hg v hv := by
    obtain ⟨a, b⟩ := e
    have := hG.lt _ he
    dsimp only at this
    have ha := hg a (by omega)
    have hb := hg b (by omega)
    have h1 := (h.edge a (by omega) b (hG.edge_mem he).1).2
    have h2 := (h.edge b (by omega) a (hG.edge_mem he).2).2
    rw [relaxO_at l a b v (by omega) (by omega) (by omega)]
    split
    · rename_i e; subst e; omega
    · split
      · rename_i e; subst e; omega
      · exact hg v hv
  give l hl e he hg a b hab hR hx := by
    rcases hab with rfl | rfl
    · have := hG.lt _ he
      dsimp only at this
      have hb := hg b (by omega)
      rw [relaxO_at l a b b (by omega) (by omega) (by omega), if_neg (by omega), if_pos rfl]
      omega
    · have := hG.lt _ he
      dsimp only at this
      have hb := hg b (by omega)
      rw [relaxO_at l b a b (by omega) (by omega) (by omega), if_pos rfl]
      omega
theorem list_of_getD {N : Nat} {l : List Nat} {t : Nat → Nat} (hl : l.length = N) (h : ∀ v, v < N → l.getD v 0 = t v) : l = (List.range N).map t := by
  apply List.ext_getElem?
  intro k
  by_cases hk : k < N
  · have := h k hk
    rw [List.getElem?_eq_getElem (by omega)]
    simp only [List.getD_eq_getElem?_getD, List.getElem?_eq_getElem (show k < l.length by omega), Option.getD_some] at this
    simp [hk, this]
  · rw [List.getElem?_eq_none (by omega), List.getElem?_eq_none (by simp; omega)]
theorem Lev.steps {N : Nat} {es : List (Nat × Nat)} {o lab : Nat → Nat} (hG : Good N es) (h : Lev N (nb es) o lab) : ∀ v k, v < N → o v = k + 1 → ∃ u, u < N ∧ o u = k ∧ ((u, v) ∈ es ∨ (v, u) ∈ es) := by
  intro v k hv hk
  obtain ⟨u, hu, hou⟩ := h.up v k hv hk
  have hm := (mem_nb (fun e he => by have := hG.lt e he; omega)).1 hu
  exact ⟨u, hG.adj.lt v hv u hu, hou, hm.symm⟩
theorem ref_labels {N : Nat} {es : List (Nat × Nat)} {o lab : Nat → Nat} (hG : Good N es) (h : Lev N (nb es) o lab) : rounds relaxL es N (List.range N) = (List.range N).map lab := by
  have hgd : ∀ v, v < N → (List.range N).getD v 0 = v := fun v hv => by simp [hv]
  obtain ⟨h1, _, h3⟩ := (relaxL_ok hG h).rounds (o := o) (l := List.range N) (by simp) (fun v hv => by rw [hgd v hv]; exact h.le v hv) (fun v hv h0 => by rw [hgd v hv]; exact ((h.root v hv).1 h0).symm)
    (fun v k hv hk => (h.steps hG v k hv hk).imp fun u hu => ⟨hu.1, hu.2.1, trivial, hu.2.2⟩) N
  exact list_of_getD h1 fun v hv => h3 v hv (Nat.le_of_lt (h.lt hG.adj v hv))
theorem ref_levels {N : Nat} {es : List (Nat × Nat)} {o lab : Nat → Nat} (hG : Good N es) (h : Lev N (nb es) o lab) : rounds relaxO es N ((List.range N).map fun v => if lab v ≠ v then N else 0) = (List.range N).map o := by
  have hgd : ∀ v, v < N → ((List.range N).map fun v => if lab v ≠ v then N else 0).getD v 0 = if lab v ≠ v then N else 0 := fun v hv => by simp [hv]
  obtain ⟨h1, _, h3⟩ := (relaxO_ok hG h).rounds (o := o) (l := (List.range N).map fun v => if lab v ≠ v then N else 0) (by simp) (fun v hv => by
      rw [hgd v hv]
      split
      · exact Nat.le_of_lt (h.lt hG.adj v hv)
      · rename_i e
        have := (h.root v hv).2 (by simpa using e)
        omega) (fun v hv h0 => by
      rw [hgd v hv, if_neg (by simpa using (h.root v hv).1 h0), h0])
    (fun v k hv hk => (h.steps hG v k hv hk).imp fun u hu => ⟨hu.1, hu.2.1, by omega, hu.2.2⟩) N
  exact list_of_getD h1 fun v hv => h3 v hv (Nat.le_of_lt (h.lt hG.adj v hv))
end Fil
end
section
namespace Fil
/-- the lists of those of labels below i -/
def compsI (N i : Nat) (lab : Nat → Nat) : List (List Nat) := ((List.range i).filter fun v => lab v == v).map fun r => (List.range N).filter fun u => lab u == r
abbrev compsS (N : Nat) (lab : Nat → Nat) : List (List Nat) := compsI N N lab
theorem Bfs.comps {N : Nat} {A : Nat → List Nat} {met : List Bool} {out : List Nat} {lab : Nat → Nat} (h : Bfs N A N met out lab []) : compsL N N met lab = compsS N lab := by
  apply List.map_congr_left
  intro r _
  apply List.filter_congr
  intro u hu
  rw [h.below u (by simpa using hu), Bool.true_and]
theorem compsI_next {N i : Nat} {lab : Nat → Nat} (h : lab i ≠ i) : compsI N (i + 1) lab = compsI N i lab := by
  have : (lab i == i) = false := by simpa using h
  rw [compsI, List.range_succ, List.filter_append]
  simp [this, compsI]
theorem compsI_add {N i : Nat} {lab : Nat → Nat} (h : lab i = i) : compsI N (i + 1) lab = compsI N i lab ++ [(List.range N).filter fun u => lab u == i] := by
  rw [compsI, List.range_succ, List.filter_append]
  simp [h, compsI]
theorem compsI_length (N i : Nat) (lab : Nat → Nat) : (compsI N i lab).length ≤ i := by
  rw [compsI, List.length_map]
  have := List.length_filter_le (fun v => lab v == v) (List.range i)
  rwa [List.length_range] at this
theorem compsS_congr {N : Nat} {lab lab' : Nat → Nat} (h : ∀ v, v < N → lab v = lab' v) : compsS N lab = compsS N lab' := by
  have e1 : (List.range N).filter (fun v => lab v == v) = (List.range N).filter fun v => lab' v == v := by
    apply List.filter_congr
    intro v hv
    rw [h v (by simpa using hv)]
  rw [compsS, compsS, compsI, compsI, e1]
  apply List.map_congr_left
  intro r _
  apply List.filter_congr
  intro u hu
  rw [h u (by simpa using hu)]
/-- one row, as far as u -/
theorem row_low {lab : Nat → Nat} {v : Nat} (hl : ∀ u, u < v → lab u ≤ u) : (List.range v).filter (fun u => lab u == v) = [] := by
  rw [List.filter_eq_nil_iff]
  intro u hu
  have hu : u < v := by simpa using hu
  have := hl u hu
  simp; omega
theorem row_add {lab : Nat → Nat} {u v : Nat} (h : lab u = v) : (List.range (u + 1)).filter (fun u => lab u == v) = (List.range u).filter (fun u => lab u == v) ++ [u] := by
  rw [List.range_succ, List.filter_append]
  simp [h]
theorem row_next {lab : Nat → Nat} {u v : Nat} (h : lab u ≠ v) : (List.range (u + 1)).filter (fun u => lab u == v) = (List.range u).filter (fun u => lab u == v) := by
  have : (lab u == v) = false := by simpa using h
  rw [List.range_succ, List.filter_append]
  simp [this]
theorem row_length (N v : Nat) (lab : Nat → Nat) : ((List.range N).filter fun u => lab u == v).length ≤ N := by
  have := List.length_filter_le (fun u => lab u == v) (List.range N)
  rwa [List.length_range] at this
/-- each list of it -/
theorem comp_mem {N : Nat} {lab : Nat → Nat} {c : List Nat} (h : c ∈ compsS N lab) : ∃ r, r < N ∧ lab r = r ∧ c = (List.range N).filter fun u => lab u == r := by
  obtain ⟨r, hr, rfl⟩ := List.mem_map.1 h
  obtain ⟨h1, h2⟩ := List.mem_filter.1 hr
  exact ⟨r, by simpa using h1, by simpa using h2, rfl⟩
theorem filter_head {p : Nat → Bool} {r : Nat} : ∀ {l : List Nat}, r ∈ l → p r = true → ∃ x t, l.filter p = x :: t
  | y :: l, hr, hp => by
    by_cases h : p y = true
    · exact ⟨y, l.filter p, by simp [h]⟩
    · have : r ∈ l := by
        rcases List.mem_cons.1 hr with rfl | h1
        · exact absurd hp h
        · exact h1
      obtain ⟨x, t, e⟩ := filter_head this hp
      exact ⟨x, t, by simp [h, e]⟩
/-- .. begins with its label -/
theorem comp_head {N : Nat} {lab : Nat → Nat} {r : Nat} (hr : r < N) (hl : lab r = r) (hle : ∀ v, v < N → lab v ≤ v) : ∃ t, ((List.range N).filter fun u => lab u == r) = r :: t := by
  obtain ⟨x, t, e⟩ := filter_head (p := fun u => lab u == r) (List.mem_range.2 hr) (by simpa using hl)
  have hx : x ∈ (List.range N).filter fun u => lab u == r := by rw [e]; simp
  obtain ⟨h1, h2⟩ := List.mem_filter.1 hx
  have h1 : x < N := by simpa using h1
  have h2 : lab x = r := by simpa using h2
  have h3 := hle x h1
  have hs : ((List.range N).filter fun u => lab u == r).Pairwise (fun a b => a < b) := List.pairwise_lt_range.filter _
  have hr' : r ∈ (List.range N).filter fun u => lab u == r := List.mem_filter.2 ⟨List.mem_range.2 hr, by simpa using hl⟩
  rw [e] at hs hr'
  rcases List.mem_cons.1 hr' with h4 | h4
  · exact ⟨t, by rw [e, h4]⟩
  · have := (List.pairwise_cons.1 hs).1 r h4
    omega
theorem Lev.congr {N : Nat} {A B : Nat → List Nat} {o lab : Nat → Nat} (h : Lev N A o lab) (hAB : ∀ v, v < N → ∀ u, u ∈ A v ↔ u ∈ B v) : Lev N B o lab where
  edge w hw u hu := h.edge w hw u ((hAB w hw u).2 hu)
  up v k hv hk := by
    obtain ⟨u, hu, h2⟩ := h.up v k hv hk
    exact ⟨u, (hAB v hv u).1 hu, h2⟩
  root := h.root
  le := h.le
  idem := h.idem
  conn v hv c hc := h.conn v hv c fun w hw u hu => hc w hw u ((hAB w hw u).1 hu)
/-- left out by a shift: said in two ways -/
theorem shift_iff {x k s : Nat} (hs : s ≤ k) : (x + k + 1 - s) % (k + 1) = 0 ↔ x % (k + 1) = s := by
  have h1 := Nat.div_add_mod x (k + 1)
  have h2 := Nat.mod_lt x (show 0 < k + 1 by omega)
  generalize x / (k + 1) = q at h1
  generalize x % (k + 1) = r at *
  obtain rfl : x = (k + 1) * q + r := h1.symm
  have e : ((k + 1) * q + r + k + 1 - s) = (r + (k + 1 - s)) + (k + 1) * q := by omega
  rw [e, Nat.add_mul_mod_self_left]
  by_cases h : s ≤ r
  · have e2 : r + (k + 1 - s) = (r - s) + (k + 1) := by omega
    rw [e2, Nat.add_mod_right, Nat.mod_eq_of_lt (by omega)]
    omega
  · rw [Nat.mod_eq_of_lt (by omega)]
    omega
def keptL (N k s : Nat) (o : Nat → Nat) : List Bool := (List.range N).map fun v => decide (o v % (k + 1) ≠ s)
theorem keptL_get {N k s v : Nat} {o : Nat → Nat} (hv : v < N) : (keptL N k s o).getD v false = decide (o v % (k + 1) ≠ s) := by simp [keptL, hv]
end Fil
end
section
set_option linter.unusedVariables false
set_option linter.unusedSectionVars false
namespace Fil
abbrev rf (R : List (List Nat)) (v : Nat) : List Nat := R.getD v []
structure RotL (N : Nat) (l : List (Nat × Nat)) (R : List (List Nat)) : Prop where
  len : R.length = N
  perm : ∀ v, v < N → (rf R v).Perm (nb l v)
variable {n : Int} {es : List E} {R : List (List Nat)} {o lab : Nat → Nat}
theorem tn_nodup (hR : RightG n es) : (tn es).Nodup := by
  rw [tn, List.Nodup, List.pairwise_map]
  refine hR.sorted.imp_of_mem fun {a b} ha hb h e => ?_
  obtain ⟨a1, a2, -, -, -⟩ := hR.ok a ha
  obtain ⟨b1, b2, -, -, -⟩ := hR.ok b hb
  simp only [Prod.mk.injEq] at e
  simp only [ltE] at h
  omega
theorem nb_nd {N : Nat} {l : List (Nat × Nat)} (hG : Good N l) (hl : l.Nodup) (v : Nat) : (nb l v).Nodup := by
  rw [nb, List.Nodup, List.pairwise_filterMap]
  refine hl.imp_of_mem fun {a b} ha hb hne x hx y hy e => hne ?_
  have h1 := hG.lt a ha
  have h2 := hG.lt b hb
  subst e
  have ha' : a.1 = v ∧ a.2 = x ∨ a.1 ≠ v ∧ a.2 = v ∧ a.1 = x := by
    split at hx
    · exact .inl ⟨‹_›, by simpa using hx⟩
    · split at hx
      · exact .inr ⟨‹_›, ‹_›, by simpa using hx⟩
      · simp at hx
  have hb' : b.1 = v ∧ b.2 = x ∨ b.1 ≠ v ∧ b.2 = v ∧ b.1 = x := by
    split at hy
    · exact .inl ⟨‹_›, by simpa using hy⟩
    · split at hy
      · exact .inr ⟨‹_›, ‹_›, by simpa using hy⟩
      · simp at hy
  exact Prod.ext (by omega) (by omega)
theorem good_ne {N : Nat} {l : List (Nat × Nat)} (hG : Good N l) : ∀ e ∈ l, e.1 ≠ e.2 := fun e he => by have := hG.lt e he; omega
theorem RotL.mem (hR : RightG n es) (h : RotL n.toNat (tn es) R) {u v : Nat} : u ∈ rf R v ↔ u ∈ nb (tn es) v := by
  by_cases hv : v < n.toNat
  · exact (h.perm v hv).mem_iff
  · have h1 : rf R v = [] := by rw [rf, List.getD_eq_getElem?_getD, List.getElem?_eq_none (by have := h.len; omega)]; rfl
    rw [h1]
    refine ⟨fun h => by simp at h, fun h => ?_⟩
    exfalso
    have hG := hR.good
    rcases (mem_nb (good_ne hG)).1 h with h | h
    · have := hG.lt _ h; simp at this; omega
    · have := hG.lt _ h; simp at this; omega
theorem RotL.sys (hR : RightG n es) (h : RotL n.toNat (tn es) R) : Sys (tn es) (rf R) where
  nd v := by
    by_cases hv : v < n.toNat
    · exact (h.perm v hv).nodup_iff.2 (nb_nd hR.good (tn_nodup hR) v)
    · have h1 : rf R v = [] := by rw [rf, List.getD_eq_getElem?_getD, List.getElem?_eq_none (by have := h.len; omega)]; rfl
      rw [h1]; simp
  ed u v := by rw [h.mem hR, mem_nb (good_ne hR.good)]
  lt e he := (hR.good.lt e he).1
  ndl := tn_nodup hR
theorem RotL.lt (hR : RightG n es) (h : RotL n.toNat (tn es) R) {u v : Nat} (hu : u ∈ rf R v) : u < n.toNat ∧ v < n.toNat := by
  have hG := hR.good
  rcases (mem_nb (good_ne hG)).1 ((h.mem hR).1 hu) with h | h
  · have := hG.lt _ h; simp at this; omega
  · have := hG.lt _ h; simp at this; omega
theorem near_rot (hR : RightG n es) : RotL n.toNat (tn es) ((List.range n.toNat).map (nearS (tn es))) where
  len := by simp
  perm v hv := by
    rw [rf, List.getD_eq_getElem?_getD, List.getElem?_map, List.getElem?_range hv]
    exact List.mergeSort_perm _ _
/-- all darts, as they come sorted -/
def dartsAll (N : Nat) (l : List (Nat × Nat)) : List (Nat × Nat) := dartsOf (nearS l) (List.range N)
theorem darts_all (hR : RightG n es) (h : RotL n.toNat (tn es) R) : (dartsOf (rf R) (List.range n.toNat)).Perm (dartsAll n.toNat (tn es)) := by
  have h1 : dartsAll n.toNat (tn es) = dartsOf (rf ((List.range n.toNat).map (nearS (tn es)))) (List.range n.toNat) := by
    rw [dartsAll, dartsOf, dartsOf, List.flatMap_def, List.flatMap_def]
    congr 1
    apply List.map_congr_left
    intro v hv
    have hv : v < n.toNat := by simpa using hv
    simp [vc, rf, hv]
  rw [h1]
  refine perm_of_nodup (darts_nodup (h.sys hR) List.nodup_range) (darts_nodup ((near_rot hR).sys hR) List.nodup_range) fun d => ?_
  rw [mem_darts, mem_darts, h.mem hR, (near_rot hR).mem hR]
theorem comp_shut (hR : RightG n es) (h : RotL n.toNat (tn es) R) (hL : Lev n.toNat (nb (tn es)) o lab) {c : List Nat} (hc : c ∈ compsS n.toNat lab) : ∀ v ∈ c, ∀ u ∈ rf R v, u ∈ c := by
  obtain ⟨r, hr, hrr, rfl⟩ := comp_mem hc
  intro v hv u hu
  obtain ⟨h1, h2⟩ := List.mem_filter.1 hv
  have h3 := h.lt hR hu
  have h4 := (hL.edge v h3.2 u ((h.mem hR).1 hu)).1
  refine List.mem_filter.2 ⟨by simpa using h3.1, ?_⟩
  rw [h4]; exact h2
theorem comp_nodup {N : Nat} {c : List Nat} (hc : c ∈ compsS N lab) : c.Nodup := by
  obtain ⟨r, hr, hrr, rfl⟩ := comp_mem hc
  exact List.nodup_range.sublist List.filter_sublist
theorem comp_ne {N : Nat} {c : List Nat} (hc : c ∈ compsS N lab) : c ≠ [] := by
  obtain ⟨r, hr, hrr, rfl⟩ := comp_mem hc
  exact List.ne_nil_of_mem (List.mem_filter.2 ⟨List.mem_range.2 hr, by simp [hrr]⟩)
theorem comp_grow (hR : RightG n es) (h : RotL n.toNat (tn es) R) (hL : Lev n.toNat (nb (tn es)) o lab) {c : List Nat} (hc : c ∈ compsS n.toNat lab) : ∃ c', c'.Perm c ∧ Grow (rf R) c' := by
  have hnd := comp_nodup hc
  have hs := comp_shut hR h hL hc
  obtain ⟨r, hr, hrr, rfl⟩ := comp_mem hc
  generalize hcc : (List.range n.toNat).filter (fun u => lab u == r) = c at *
  have hm : ∀ u, u ∈ c ↔ u < n.toNat ∧ lab u = r := fun u => by rw [← hcc]; simp
  have hp := List.mergeSort_perm c fun a b => decide (o a ≤ o b)
  refine ⟨c.mergeSort fun a b => decide (o a ≤ o b), hp, fun A w B e hA => ?_⟩
  have hsort : (c.mergeSort fun a b => decide (o a ≤ o b)).Pairwise fun a b => decide (o a ≤ o b) = true :=
    List.pairwise_mergeSort (fun a b c h1 h2 => by simp at *; omega) (fun a b => by simp; omega) c
  have hnd' := hp.nodup_iff.2 hnd
  rw [e] at hsort hnd' hp
  have hwc : w ∈ c := hp.mem_iff.1 (by simp)
  obtain ⟨hwN, hwr⟩ := (hm w).1 hwc
  obtain ⟨p1, p2, p3⟩ := List.pairwise_append.1 hsort
  obtain ⟨p4, p5⟩ := List.pairwise_cons.1 p2
  cases ho : o w with
  | zero =>
    exfalso
    obtain ⟨a, ha⟩ := List.exists_mem_of_ne_nil _ hA
    have hac : a ∈ c := hp.mem_iff.1 (by simp [ha])
    obtain ⟨haN, har⟩ := (hm a).1 hac
    have h1 : o a ≤ o w := by simpa using p3 a ha w (.head _)
    have h2 := (hL.root a haN).1 (by omega)
    have h3 := (hL.root w hwN).1 ho
    have h4 : a = w := by omega
    exact (List.nodup_append.1 hnd').2.2 a ha w (.head _) h4
  | succ k =>
    obtain ⟨u, hu, hk⟩ := hL.up w k hwN ho
    have hur : u ∈ rf R w := (h.mem hR).2 hu
    refine ⟨u, ?_, (h.sys hR).sym hur⟩
    have := hp.mem_iff.2 (hs w hwc u hur)
    rcases List.mem_append.1 this with h1 | h1
    · exact h1
    · exfalso
      rcases List.mem_cons.1 h1 with rfl | h1
      · omega
      · have : o w ≤ o u := by simpa using p4 u h1
        omega
theorem grow_ne {l : List (Nat × Nat)} {R : Nat → List Nat} {c : List Nat} (hS : Sys l R) (hg : Grow R c) (h2 : 2 ≤ c.length) : ∀ v ∈ c, R v ≠ [] := by
  intro v hv
  obtain ⟨A, B, rfl⟩ := List.append_of_mem hv
  by_cases hA : A = []
  · subst hA
    cases B with
    | nil => simp at h2
    | cons w B =>
      obtain ⟨u, hu, hw⟩ := hg [v] w B rfl (by simp)
      obtain rfl : u = v := by simpa using hu
      exact List.ne_nil_of_mem hw
  · obtain ⟨u, hu, hw⟩ := hg A v B rfl hA
    exact List.ne_nil_of_mem (hS.sym hw)
theorem Dec.nil {α : Type} {p : α → α} {C : List (List α)} (h : Dec p [] C) : C = [] := by
  cases C with
  | nil => rfl
  | cons l C =>
    have := h.perm.eq_nil
    simp at this
    exact absurd this.1 (h.cy l (.head _)).1
/-- a component's number -/
def eulerK (l : List (Nat × Nat)) (F : List (List (Nat × Nat))) (c : List Nat) : Int := (if c.length = 1 then 2 else (c.length : Int)) - ((l.filter fun e => decide (e.1 ∈ c)).length : Int) + ((F.filter fun f => decide ((f.headD (0, 0)).1 ∈ c)).length : Int)
def eulerL (N : Nat) (l : List (Nat × Nat)) (lab : Nat → Nat) (F : List (List (Nat × Nat))) : List Int := (compsS N lab).map (eulerK l F)
theorem single (hR : RightG n es) (h : RotL n.toNat (tn es) R) (hL : Lev n.toNat (nb (tn es)) o lab) {c : List Nat} (hc : c ∈ compsS n.toNat lab) (h1 : c.length = 1) : dartsOf (rf R) c = [] ∧ (tn es).filter (fun e => decide (e.1 ∈ c)) = [] := by
  have hs := comp_shut hR h hL hc
  obtain ⟨v, rfl⟩ := List.length_eq_one_iff.1 h1
  have hv : rf R v = [] := by
    refine List.eq_nil_iff_forall_not_mem.2 fun u hu => ?_
    have := hs v (by simp) u hu
    exact (h.sys hR).ne hu (by simpa using this)
  refine ⟨by rw [dartsOf, List.flatMap_cons, List.flatMap_nil, vc, hv]; rfl, List.filter_eq_nil_iff.2 fun e he hd => ?_⟩
  obtain rfl : e.1 = v := by simpa using hd
  have : e.2 ∈ rf R e.1 := ((h.sys hR).ed _ _).2 (.inl he)
  rw [hv] at this; simp at this
end Fil
end
section
set_option linter.unusedVariables false
namespace Fil
/-- is a system right -/
def rotB (n : Int) (es : List E) (ls : List (List Int)) (v : Nat) : Bool := decide ((ls.getD v []).mergeSort (fun x y => decide (x ≤ y)) = (nearS (tn es) v).map fun (k : Nat) => (k : Int))
def rotK (n : Int) (es : List E) (ls : List (List Int)) : Int :=
  if rightK n es ≠ 0 then 1 else if (ls.length : Int) ≠ n then 12 else if (List.range n.toNat).all (rotB n es ls) then 0 else 12
end Fil
namespace Go.Sl
open Go Go.RowKit
/-- rows that are read, by rows of integers -/
structure ROsI (w : World) (S : FS) (v : Value) (hs : List Value) (ls : List (List Int)) : Prop where
  shp : Shp v ls.length
  len : hs.length = ls.length
  ro : RO w S v hs
  kid : ∀ (i : Nat) h l, hs[i]? = some h → ls[i]? = some l → Shp h l.length ∧ RO w S h (iV l)
theorem rosI_old {w0 w : World} {S0 : FS} {L : List HP} {v : Value} {hs : List Value} {ls : List (List Int)} (h : St w0 S0 L w) (hr : ROsI w0 S0 v hs ls) : ROsI w No v hs ls :=
  ⟨hr.shp, hr.len, ro_old h hr.ro, fun i x l h1 h2 => ⟨(hr.kid i x l h1 h2).1, ro_old h (hr.kid i x l h1 h2).2⟩⟩
def intL (R : List (List Nat)) : List (List Int) := R.map fun l => l.map fun (k : Nat) => (k : Int)
theorem ROs.int {w : World} {S : FS} {v : Value} {hs : List Value} {R : List (List Nat)} (h : ROs w S v hs R) : ROsI w S v hs (intL R) :=
  ⟨by simpa [intL] using h.shp, by simpa [intL] using h.len, h.ro, fun i x l h1 h2 => by
    simp only [intL, List.getElem?_map, Option.map_eq_some_iff] at h2
    obtain ⟨l', h2, rfl⟩ := h2
    have := h.kid i x l' h1 h2
    rw [← nV_iV]
    exact ⟨by simpa using this.1, this.2⟩⟩
theorem ROsI.nat {w : World} {S : FS} {v : Value} {hs : List Value} {R : List (List Nat)} (h : ROsI w S v hs (intL R)) : ROs w S v hs R :=
  ⟨by simpa [intL] using h.shp, by simpa [intL] using h.len, h.ro, fun i x l h1 h2 => by
    have := h.kid i x (l.map fun (k : Nat) => (k : Int)) h1 (by simp [intL, h2])
    rw [← nV_iV] at this
    exact ⟨by simpa using this.1, this.2⟩⟩
end Go.Sl
namespace Go.Proofs.YtpajjnkmaebhcabGreat
open Go.RowKit Go.Sl Fil
set_option maxRecDepth 100000
set_option maxHeartbeats 8000000
set_option linter.unusedVariables false
set_option linter.unusedSimpArgs false
attribute [local irreducible] Code.wp wpList bodyPost wpQuiet Exit.then Exit.inBlock Post wpAnyH wpOp
theorem Equal_ok (a b : Value) (x y : List Int) (w : World) (ha : Shp a x.length) (hb : Shp b y.length) (hra : RO w No a (iV x)) (hrb : RO w No b (iV y)) :
    Calls Tryz.prog 146 #[a, b] w (Post w No (Just (.bool (decide (x = y))))) := by
  have hm := ha.1
  simp only [maxLen] at hm
  refine enter0 (vs := [_, _]) Tryz.func146 rfl Tryz.ntmps146 rfl ?_
  repeat' first
    | refine k_then ?_ | refine c_seq ?_ | refine c_region ?_ | refine s_nil ?_ | refine s_move (by exact rfl) (by exact rfl) ?_ | refine s_assign (by exact rfl) (by exact rfl) ?_ | refine s_neq (by exact rfl) (by exact rfl) (by exact rfl) ?_ | refine s_len (by exact rfl) (by exact rfl) (by assumption) ?_ | refine c_block ?_ | refine c_skip ?_ | refine c_ret ?_ | refine k_then_ret ?_ | (refine c_cond_p (by exact rfl) (fun h => ?_) (fun h => ?_) <;> try (exfalso; omega))
  · refine ret1 [] rfl rfl rfl ⟨congrArg Value.bool ?_, rfl⟩
    exact (decide_eq_false fun e => h (by rw [e])).symm
  · refine c_loop (fun k : Nat => k ≤ x.length ∧ x.take k = y.take k) (fun k => [(0, a), (1, b), (12, .int .i64 (x.length : Int)), (13, .int .i64 (k : Int))]) (fun _ => []) (fun k => x.length - k) 0 [] ⟨by omega, rfl⟩ rfl ⟨rfl, rfl, rfl, rfl, trivial⟩ ?_
    rintro k ⟨hk, hq⟩
    by_cases hlt : k < x.length
    · obtain ⟨c, hc⟩ : ∃ c, x[k]? = some c := ⟨_, List.getElem?_eq_getElem hlt⟩
      obtain ⟨d, hd⟩ : ∃ d, y[k]? = some d := ⟨_, List.getElem?_eq_getElem (by omega)⟩
      have h1 : (iV x)[k * 1]? = some (.int .i64 c) := by simp [iV, hc]
      have h2 : (iV y)[k * 1]? = some (.int .i64 d) := by simp [iV, hd]
      repeat' first
        | refine k_then ?_ | refine c_seq ?_ | refine c_region ?_ | refine s_nil ?_ | refine s_move (by exact rfl) (by exact rfl) ?_ | refine s_assign (by exact rfl) (by exact rfl) ?_ | refine s_lss (by exact rfl) (by exact rfl) (by exact rfl) ?_ | refine c_block ?_ | refine c_skip ?_ | (refine c_cond_p (by exact rfl) (fun h => ?_) (fun h => ?_) <;> try (exfalso; omega))
      refine p_begin0 [(0, true), (1, true), (2, true), (3, true), (4, true), (5, true), (6, true), (7, true), (8, true)] (by kernel_rfl) ?_
      repeat' first
        | refine p_nil ?_
        | (refine p_at (by exact rfl) ?_
           first
            | refine t_move (by exact rfl) (by exact rfl) (by exact fun _ h => h) ?_ | refine t_neq (by exact rfl) (by exact rfl) (by exact rfl) (by exact fun _ h => h) ?_ | refine t_idx (by exact rfl) (by exact rfl) (by exact rfl) (by assumption) (by first | assumption | omega) (by exact fun _ h => h) ?_ | refine t_ld_ro (by exact rfl) (by exact rfl) (by assumption) (by assumption) (by exact fun _ h => h) ?_)
      repeat' first
        | refine k_then ?_ | refine c_seq ?_ | refine c_region ?_ | refine s_nil ?_ | refine s_move (by exact rfl) (by exact rfl) ?_ | refine s_assign (by exact rfl) (by exact rfl) ?_ | refine s_add (by exact rfl) (by exact rfl) (by exact rfl) (by omega) ?_ | refine c_skip ?_ | refine c_ret ?_ | refine k_then_ret ?_ | refine k_blk ?_ | refine k_blk_ret ?_ | (refine c_cond_p (by exact rfl) (fun h => ?_) (fun h => ?_) <;> try (exfalso; omega))
      · refine ret1 [] rfl rfl rfl ⟨congrArg Value.bool ?_, rfl⟩
        refine (decide_eq_false fun e => ?_).symm
        subst e
        rw [hc] at hd
        simp at hd
        omega
      · refine c_round (k + 1) [] (by exact rfl) (by exact ⟨rfl, rfl, rfl, rfl, trivial⟩) ⟨by omega, ?_⟩ (by omega)
        have : c = d := by omega
        subst this
        rw [List.take_add_one, List.take_add_one, hq, hc, hd]
    · repeat' first
        | refine k_then ?_ | refine c_seq ?_ | refine c_region ?_ | refine s_nil ?_ | refine s_assign (by exact rfl) (by exact rfl) ?_ | refine s_lss (by exact rfl) (by exact rfl) (by exact rfl) ?_ | refine c_exit ?_ | refine c_ret ?_ | refine k_then_exit ?_ | refine k_blk_eq ?_ | (refine c_cond_p (by exact rfl) (fun h => ?_) (fun h => ?_) <;> try (exfalso; omega))
      refine ret1 [] rfl rfl rfl ⟨congrArg Value.bool ?_, rfl⟩
      refine (decide_eq_true ?_).symm
      rw [List.take_of_length_le (by omega), List.take_of_length_le (by omega)] at hq
      exact hq
theorem rotRight_ok (n : Int) (v : Value) (es : List E) (vr : Value) (hr0 : List Value) (ls : List (List Int)) (w : World) (hs : Shp v es.length) (hr : RO w No v (esV es)) (hm : es.length < 4611686018427387904) (hR : ROsI w No vr hr0 ls) (hlen : ∀ l ∈ ls, l.length ≤ 1048576) :
    Calls Tryz.prog 117 #[.agg #[.int .i64 n, v], vr] w (Post w No (Just (.int .i64 (rotK n es ls)))) := by
  have hsr := hR.shp
  have hrr := hR.ro
  have hls := hsr.1
  simp only [maxLen] at hls
  refine enter0 (vs := [_, _]) Tryz.func117 rfl Tryz.ntmps117 rfl ?_
  repeat' first
    | refine k_then ?_ | refine c_seq ?_ | refine c_region ?_ | refine s_nil ?_ | refine s_assign (by exact rfl) (by exact rfl) ?_ | refine s_ldk_box (by exact rfl) (by exact rfl) (by exact .head _) (by exact rfl) (by exact rfl) ?_ | refine o_box (by exact rfl) (by exact rfl) (fun b => ?_)
  refine s_call (by exact rfl) (by exact rfl) (fun w h => Right_ok n v es w hs (ro_old h hr) hm) ?_
  repeat' first
    | refine k_then ?_ | refine c_seq ?_ | refine c_region ?_ | refine s_nil ?_ | refine s_move (by exact rfl) (by exact rfl) ?_ | refine s_assign (by exact rfl) (by exact rfl) ?_ | refine s_fa (by exact rfl) (by exact rfl) ?_ | refine s_ld_box (by exact rfl) (by exact rfl) (by exact .head _) (by exact rfl) ?_ | refine s_neq (by exact rfl) (by exact rfl) (by exact rfl) ?_ | refine s_len (by exact rfl) (by exact rfl) (by assumption) ?_ | refine s_ldk_box (by exact rfl) (by exact rfl) (by exact .head _) (by exact rfl) (by exact rfl) ?_ | refine c_skip ?_ | refine c_ret ?_ | refine k_then_ret ?_ | (refine c_cond_p (by exact rfl) (fun h => ?_) (fun h => ?_) <;> try (exfalso; omega))
  · refine ret1 [] rfl rfl rfl ⟨?_, rfl⟩
    rw [rotK, if_pos h]
  · rename_i h0
    have h1 := h
    refine ret1 [] rfl rfl rfl ⟨?_, rfl⟩
    rw [rotK, if_neg h0, if_pos h1]
  rename_i h0
  have h1 := h
  have hRG := right_iff.1 (Classical.byContradiction h0)
  have hln : ls.length = n.toNat := by have := hRG.lo; omega
  refine o_call (by exact rfl) (by exact rfl) (fun w h => Near_ok n v es w hs (ro_old h hr) hRG) ?_
  rintro vn _ ⟨hn, hnl, rfl⟩
  refine know_row (v := vn) (.head _) fun hvn _ => ?_
  repeat' first
    | refine k_then ?_ | refine s_nil ?_ | refine s_move (by exact rfl) (by exact rfl) ?_ | refine s_len (by exact rfl) (by exact rfl) (by assumption) ?_ | refine c_block ?_
  have hlo := hRG.lo
  have hhi := hRG.hi
  have hAl : ∀ x, (nearS (tn es) x).length ≤ 4194304 := fun x => by
    have h1 := nb_length (tn es) x
    have h2 := hRG.many
    simp only [nearS, List.length_mergeSort]
    simp only [tn, List.length_map] at h1
    simp only [tn]
    omega
  have hrotK : rotK n es ls = if (List.range n.toNat).all (rotB n es ls) then 0 else 12 := by rw [rotK, if_neg h0, if_neg h1]
  rw [hrotK]
  have hBd : ∀ x, rotB n es ls x = decide ((ls.getD x []).mergeSort (fun x y => decide (x ≤ y)) = (nearS (tn es) x).map fun (k : Nat) => (k : Int)) := fun x => rfl
  generalize rotB n es ls = B at *
  generalize nearS (tn es) = A at *
  clear hrotK h1 h h0
  generalize hN : n.toNat = N at *
  have hnN : n = (N : Int) := by omega
  subst hnN
  refine c_loop (fun k : Nat => k ≤ N ∧ ∀ u, u < k → B u = true) (fun k => [(1, vr), (2, .pointer (some ⟨b, 0, none⟩)), (16, vn), (17, .int .i64 (N : Int)), (18, .int .i64 (k : Int))]) (fun _ => [rowHP vn 28 1 N hn, starHP (kids rowN hn ((List.range N).map A))]) (fun k => N - k) 0 [0, 0] ⟨Nat.zero_le _, by omega⟩ rfl ⟨rfl, rfl, rfl, rfl, rfl, trivial⟩ ?_
  rintro k ⟨hk, hq⟩
  by_cases hlt : k < N
  · obtain ⟨hx, hhx⟩ : ∃ x, hr0[k]? = some x := ⟨_, List.getElem?_eq_getElem (by have := hR.len; omega)⟩
    obtain ⟨l, hl⟩ : ∃ l, ls[k]? = some l := ⟨_, List.getElem?_eq_getElem (by omega)⟩
    obtain ⟨hsx, hrx⟩ := hR.kid k hx l hhx hl
    obtain ⟨hy, hhy⟩ : ∃ x, hn[k]? = some x := ⟨_, List.getElem?_eq_getElem (by omega)⟩
    have hAk : ((List.range N).map A)[k]? = some (A k) := by simp [hlt]
    have hlk := hlen l (List.mem_of_getElem? hl)
    have hgd : ls.getD k [] = l := by rw [List.getD_eq_getElem?_getD, hl]; rfl
    have h1' : hr0[k * 1]? = some hx := by rw [Nat.mul_one]; exact hhx
    have h2' : hn[k * 1]? = some hy := by rw [Nat.mul_one]; exact hhy
    repeat' first
      | refine k_then ?_ | refine c_seq ?_ | refine c_region ?_ | refine s_nil ?_ | refine s_move (by exact rfl) (by exact rfl) ?_ | refine s_assign (by exact rfl) (by exact rfl) ?_ | refine s_lss (by exact rfl) (by exact rfl) (by exact rfl) ?_ | refine s_idx (by exact rfl) (by exact rfl) (by exact rfl) (by assumption) (by first | assumption | omega) ?_ | refine s_ld_ro (by exact rfl) (by exact rfl) (by assumption) (by assumption) ?_ | refine s_ld_row (by exact rfl) (by exact rfl) (by exact .head _) (by assumption) ?_ | refine c_block ?_ | refine c_skip ?_ | (refine c_cond_p (by exact rfl) (fun h => ?_) (fun h => ?_) <;> try (exfalso; omega))
    refine o_call (by exact rfl) (by exact rfl) (fun w h => Values_ok hx w hsx.one) ?_
    rintro vf _ ⟨bf, rfl, rfl⟩
    skip
    refine o_call (by exact rfl) (by exact rfl) (fun w h => SortedI_ok _ [.pointer (some ⟨bf, 0, none⟩)] l w hlk fun w' S' Sf hm hS => values1I_ok bf hx l w' S' ((rb_own h (.head _)).fwd hm hS) hsx (RO.fwd (ro_old h hrx) hm hS)) ?_
    rintro vs _ rfl
    have hros : ∀ w1, St w No [rowHP vs 3 1 l.length (iV (l.mergeSort fun x y => decide (x ≤ y))), boxHP bf 28 [hx], rowHP vn 28 1 N hn, starHP (kids rowN hn ((List.range N).map A))] w1 → ROs w1 No vn hn ((List.range N).map A) := fun w1 h => ros_own h (.tail _ (.tail _ (.head _))) (by simp) (.tail _ (.tail _ (.tail _ (.head _))))
    refine know_row (v := vs) (.head _) fun hvs _ => ?_
    repeat' first
      | refine s_move (by exact rfl) (by exact rfl) ?_
    refine s_call (vs := [vs, hy]) (by exact rfl) (by exact rfl) (fun w h => by
      have hk := (hros w h).kid k hy (A k) hhy hAk
      rw [nV_iV] at hk
      exact Equal_ok vs hy (l.mergeSort fun x y => decide (x ≤ y)) ((A k).map fun (k : Nat) => (k : Int)) w (by simpa using hvs) (by simpa using hk.1) (ro_own h (.head _)) hk.2) ?_
    rw [← hgd, ← hBd, hgd]
    cases hB : B k with
    | false =>
      repeat' first
        | refine k_then ?_ | refine c_seq ?_ | refine c_region ?_ | refine s_nil ?_ | refine s_assign (by exact rfl) (by exact rfl) ?_ | refine s_not (by exact rfl) (by exact rfl) ?_ | refine c_ret ?_ | refine k_then_ret ?_ | refine k_blk_ret ?_ | refine c_cond_t (by exact rfl) ?_
      refine ret1 [] rfl rfl rfl ⟨?_, rfl⟩
      rw [if_neg]
      intro hall
      have := List.all_eq_true.1 hall k (List.mem_range.2 hlt)
      rw [hB] at this; simp at this
    | true =>
      repeat' first
        | refine k_then ?_ | refine c_region ?_ | refine s_nil ?_ | refine s_move (by exact rfl) (by exact rfl) ?_ | refine s_add (by exact rfl) (by exact rfl) (by exact rfl) (by omega) ?_ | refine s_not (by exact rfl) (by exact rfl) ?_ | refine c_skip ?_ | refine k_blk ?_ | refine c_cond_f (by exact rfl) ?_
      refine c_round (k + 1) [2, 2] (by exact rfl) (by exact ⟨rfl, rfl, rfl, rfl, rfl, trivial⟩) ⟨by omega, fun u hu => ?_⟩ (by omega)
      by_cases e : u = k
      · rw [e]; exact hB
      · exact hq u (by omega)
  · repeat' first
      | refine k_then ?_ | refine c_seq ?_ | refine c_region ?_ | refine s_nil ?_ | refine s_assign (by exact rfl) (by exact rfl) ?_ | refine s_lss (by exact rfl) (by exact rfl) (by exact rfl) ?_ | refine c_exit ?_ | refine c_ret ?_ | refine k_then_exit ?_ | refine k_blk_eq ?_ | (refine c_cond_p (by exact rfl) (fun h => ?_) (fun h => ?_) <;> try (exfalso; omega))
    refine ret1 [] rfl rfl rfl ⟨?_, rfl⟩
    rw [if_pos]
    rw [List.all_eq_true]
    intro u hu
    exact hq u (by have := List.mem_range.1 hu; omega)
end Go.Proofs.YtpajjnkmaebhcabGreat
end
section
set_option linter.unusedVariables false
namespace Fil
def nextK (ls : List (List Int)) (u v : Int) : Int × Int × Bool :=
  if v < 0 ∨ (ls.length : Int) ≤ v then (0, 0, false) else
    match (ls.getD v.toNat []).findIdx? fun y => decide (y = u) with
    | none => (0, 0, false)
    | some i => (v, (ls.getD v.toNat []).getD ((i + 1) % (ls.getD v.toNat []).length) 0, true)
end Fil
namespace Go.Proofs.YtpajjnkmaebhcabGreat
open Go.RowKit Go.Sl Fil
set_option maxRecDepth 100000
set_option maxHeartbeats 8000000
set_option linter.unusedVariables false
set_option linter.unusedSimpArgs false
attribute [local irreducible] Code.wp wpList bodyPost wpQuiet Exit.then Exit.inBlock Post wpAnyH wpOp
def dV (u v : Int) : Value := .agg #[.int .i64 u, .int .i64 v]
def nextV (p : Int × Int × Bool) : Value := .tuple #[dV p.1 p.2.1, .bool p.2.2]
theorem refNext_ok (vr : Value) (hr0 : List Value) (ls : List (List Int)) (u v : Int) (w : World) (hR : ROsI w No vr hr0 ls) :
    Calls Tryz.prog 92 #[vr, dV u v] w (Post w No (Just (nextV (nextK ls u v)))) := by
  have hsr := hR.shp
  have hrr := hR.ro
  have hls := hsr.1
  simp only [maxLen] at hls
  refine enter0 (vs := [_, _]) Tryz.func92 rfl Tryz.ntmps92 rfl ?_
  unfold dV
  repeat' first
    | refine k_then ?_ | refine c_seq ?_ | refine c_region ?_ | refine s_nil ?_ | refine s_move (by exact rfl) (by exact rfl) ?_ | refine s_assign (by exact rfl) (by exact rfl) ?_ | refine s_fa (by exact rfl) (by exact rfl) ?_ | refine s_ld_box (by exact rfl) (by exact rfl) (by exact .tail _ (.head _)) (by exact rfl) ?_ | refine s_lss (by exact rfl) (by exact rfl) (by exact rfl) ?_ | refine s_idxi (by exact rfl) (by exact rfl) (by exact rfl) (by assumption) (by first | assumption | omega) ?_ | refine s_pick_t (by exact rfl) (by exact rfl) (by exact rfl) ?_ | refine s_pick_f (by exact rfl) (by exact rfl) (by exact rfl) ?_ | refine o_box (by exact rfl) (by exact rfl) (fun b => ?_) | refine o_alloc (by exact rfl) (fun b => ?_) | refine c_skip ?_ | (refine c_cond_p (by exact rfl) (fun h => ?_) (fun h => ?_) <;> try (exfalso; omega)) | refine c_cond_t (by exact rfl) ?_ | (refine g_case (by exact rfl) (by exact rfl) (fun h => ?_) (fun h => ?_) <;> try (exfalso; omega)) | refine g_skip (by exact rfl) (by exact rfl) (by exact rfl) (by exact rfl) ?_ | refine w_move (by exact rfl) (by exact rfl) (by exact rfl) (by exact rfl) ?_ | refine w_fa (by exact rfl) (by exact rfl) (by exact rfl) (by exact rfl) ?_ | refine w_ld_box (by exact rfl) (by exact rfl) (by exact rfl) (by exact rfl) (by exact .tail _ (.head _)) (by exact rfl) ?_ | refine w_geq (by exact rfl) (by exact rfl) (by exact rfl) (by exact rfl) (by exact rfl) ?_ | refine w_len (by exact rfl) (by exact rfl) (by exact rfl) (by exact rfl) (by assumption) ?_
  · have hK : nextK ls u v = (0, 0, false) := by rw [nextK, if_pos (.inl h)]
    rw [hK]
    refine o_build (cs := [.int .i64 0, .int .i64 0]) [] (by exact rfl) (by exact rfl) (by simp) (by exact rfl) ?_
    skip
    refine o_stk_box (i := 0) (us := [.int .i64 0, .int .i64 0]) (by exact rfl) (by exact rfl) (by exact rfl) (by exact rfl) (by exact rfl) (by simp [Value.oneCell']) (by simp [Value.cells]) ?_
    repeat' first
      | refine k_then ?_ | refine s_nil ?_ | refine s_assign (by exact rfl) (by exact rfl) ?_ | refine c_ret ?_ | refine k_then_ret ?_
    refine retL [.cell 4 100, .tmp 5] [.agg #[.int .i64 0, .int .i64 0], .bool false] [] rfl ⟨res_cellk (cs := [.int .i64 0, .int .i64 0]) (k := 2) (off := 0) (us := [.int .i64 0, .int .i64 0]) rfl (.head _) rfl rfl, res_tmp rfl, trivial⟩ (by exact rfl) ⟨?_, rfl⟩
    rfl
  · have hK : nextK ls u v = (0, 0, false) := by rw [nextK, if_pos (.inr (by omega))]
    rw [hK]
    refine o_build (cs := [.int .i64 0, .int .i64 0]) [] (by exact rfl) (by exact rfl) (by simp) (by exact rfl) ?_
    skip
    refine o_stk_box (i := 0) (us := [.int .i64 0, .int .i64 0]) (by exact rfl) (by exact rfl) (by exact rfl) (by exact rfl) (by exact rfl) (by simp [Value.oneCell']) (by simp [Value.cells]) ?_
    repeat' first
      | refine k_then ?_ | refine s_nil ?_ | refine s_assign (by exact rfl) (by exact rfl) ?_ | refine c_ret ?_ | refine k_then_ret ?_
    refine retL [.cell 4 100, .tmp 5] [.agg #[.int .i64 0, .int .i64 0], .bool false] [] rfl ⟨res_cellk (cs := [.int .i64 0, .int .i64 0]) (k := 2) (off := 0) (us := [.int .i64 0, .int .i64 0]) rfl (.head _) rfl rfl, res_tmp rfl, trivial⟩ (by exact rfl) ⟨?_, rfl⟩
    rfl
  rename_i b0 h0
  have hvn : v.toNat < ls.length := by omega
  obtain ⟨hx, hhx⟩ : ∃ x, hr0[v.toNat]? = some x := ⟨_, List.getElem?_eq_getElem (by have := hR.len; omega)⟩
  obtain ⟨l, hl⟩ : ∃ l, ls[v.toNat]? = some l := ⟨_, List.getElem?_eq_getElem hvn⟩
  obtain ⟨hsx, hrx⟩ := hR.kid v.toNat hx l hhx hl
  have hgd : ls.getD v.toNat [] = l := by rw [List.getD_eq_getElem?_getD, hl]; rfl
  have h1' : hr0[v.toNat * 1]? = some hx := by rw [Nat.mul_one]; exact hhx
  have hK : nextK ls u v = match l.findIdx? fun y => decide (y = u) with
    | none => (0, 0, false)
    | some i => (v, l.getD ((i + 1) % l.length) 0, true) := by rw [nextK, if_neg (by omega), hgd]
  rw [hK]
  have hm := hsx.1
  simp only [maxLen] at hm
  repeat' first
    | refine k_then ?_ | refine c_seq ?_ | refine c_region ?_ | refine s_nil ?_ | refine s_assign (by exact rfl) (by exact rfl) ?_ | refine s_ld_ro (by exact rfl) (by exact rfl) (by assumption) (by assumption) ?_ | refine c_block ?_
  refine c_loop (fun k : Nat => k ≤ l.length ∧ ∀ y ∈ l.take k, decide (y = u) = false) (fun k => [(3, .pointer (some ⟨b0, 0, none⟩)), (4, .pointer (some ⟨b, 0, none⟩)), (5, .bool false), (6, hx), (7, .int .i64 (k : Int))]) (fun _ => [boxHP b 100 (Value.agg #[.int .i64 0, .int .i64 0]).cells.toList, boxHP b0 100 (Value.agg #[.int .i64 u, .int .i64 v]).cells.toList]) (fun k => l.length - k) 0 [0, 0] ⟨by omega, by simp⟩ rfl ⟨rfl, rfl, rfl, rfl, rfl, trivial⟩ ?_
  rintro i ⟨hk, hq⟩
  by_cases hlt : i < l.length
  · obtain ⟨c, hc⟩ : ∃ c, l[i]? = some c := ⟨_, List.getElem?_eq_getElem hlt⟩
    have h1 : (iV l)[i * 1]? = some (.int .i64 c) := by simp [iV, hc]
    repeat' first
      | refine k_then ?_ | refine c_seq ?_ | refine c_region ?_ | refine s_nil ?_ | refine s_move (by exact rfl) (by exact rfl) ?_ | refine s_lss (by exact rfl) (by exact rfl) (by exact rfl) ?_ | refine s_len (by exact rfl) (by exact rfl) (by assumption) ?_ | refine c_block ?_ | refine c_skip ?_ | (refine c_cond_p (by exact rfl) (fun h => ?_) (fun h => ?_) <;> try (exfalso; omega))
    refine p_begin0 [(0, true), (1, true), (2, true), (3, true), (4, true), (5, true), (6, true)] (by kernel_rfl) ?_
    repeat' first
      | refine p_nil ?_
      | (refine p_at (by exact rfl) ?_
         first
          | refine t_move (by exact rfl) (by exact rfl) (by exact fun _ h => h) ?_ | refine t_fa (by exact rfl) (by exact rfl) (by exact fun _ h => h) ?_ | refine t_ld_box (by exact rfl) (by exact rfl) (by exact .tail _ (.head _)) (by exact rfl) (by exact fun _ h => h) ?_ | refine t_eql (by exact rfl) (by exact rfl) (by exact rfl) (by exact fun _ h => h) ?_ | refine t_idx (by exact rfl) (by exact rfl) (by exact rfl) (by assumption) (by first | assumption | omega) (by exact fun _ h => h) ?_ | refine t_ld_ro (by exact rfl) (by exact rfl) (by assumption) (by assumption) (by exact fun _ h => h) ?_)
    by_cases hcu : c = u
    · have hf : l.findIdx? (fun y => decide (y = u)) = some i := by
        rw [List.findIdx?_eq_some_iff_getElem]
        obtain ⟨h1, h2⟩ := List.getElem?_eq_some_iff.1 hc
        refine ⟨h1, by rw [h2]; exact decide_eq_true hcu, fun j hj => ?_⟩
        rw [hq _ (List.mem_take_iff_getElem.2 ⟨j, by omega, rfl⟩)]
        simp
      rw [hf]
      dsimp only
      repeat' first
        | refine k_then ?_ | refine c_seq ?_ | (refine c_cond_p (by exact rfl) (fun h => ?_) (fun h => ?_) <;> try (exfalso; omega))
      refine p_begin [(0, true), (1, true), (2, true), (3, true), (4, true), (5, true), (6, true), (7, true), (8, true), (9, true), (10, true), (11, false), (12, true)] [boxHP b0 100 (Value.agg #[.int .i64 u, .int .i64 v]).cells.toList] (by kernel_rfl) ?_
      repeat' first
        | (refine p_at (by exact rfl) ?_
           first
            | refine t_move (by exact rfl) (by exact rfl) (by exact fun _ h => h.tl) ?_ | refine t_fa (by exact rfl) (by exact rfl) (by exact fun _ h => h.tl) ?_ | refine t_ld_box (by exact rfl) (by exact rfl) (by exact .head _) (by exact rfl) (by exact fun _ h => h.tl) ?_ | refine t_add (by exact rfl) (by exact rfl) (by exact rfl) (by omega) (by exact fun _ h => h.tl) ?_ | refine t_rem (by exact rfl) (by exact rfl) (by exact rfl) (by omega) (by exact fun _ h => h.tl) ?_ | refine t_len (by exact rfl) (by exact rfl) (by assumption) (by exact fun _ h => h.tl) ?_)
      have hmod : ((i : Int) + 1) % (l.length : Int) = (((i + 1) % l.length : Nat) : Int) := by simp
      have hml : (i + 1) % l.length < l.length := Nat.mod_lt _ (by omega)
      rw [hmod]
      generalize hj : (i + 1) % l.length = j at *
      have h2' := iV_get hml
      repeat' first
        | (refine p_at (by exact rfl) ?_
           first
            | refine t_idx (by exact rfl) (by exact rfl) (by exact rfl) (by assumption) (by first | assumption | omega) (by exact fun _ h => h.tl) ?_ | refine t_ld_ro (by exact rfl) (by exact rfl) (by assumption) (by assumption) (by exact fun _ h => h.tl) ?_)
      refine p_buildt (cs := [.int .i64 v, .int .i64 (l.getD j 0)]) [(0, .int .i64 v, [.int .i64 v]), (1, .int .i64 (l.getD j 0), [.int .i64 (l.getD j 0)])] (by exact rfl) (by exact rfl) (by exact rfl) (by simp [Value.cells]) ?_ (by exact fun _ h => h.tl) ?_
      · exact rfl
      refine p_stk_box (j := 0) (us := [.int .i64 v, .int .i64 (l.getD j 0)]) (by exact rfl) (by exact rfl) (by exact rfl) (by exact rfl) (by exact rfl) (by exact rfl) (by simp [Value.oneCell']) (by simp [Value.cells]) (fun _ h => h.pick [1] (by exact rfl)) ?_
      repeat' first
        | refine p_nil ?_
        | (refine p_at (by exact rfl) ?_
           first
            | refine t_assign (by exact rfl) (by exact rfl) (by exact fun _ h => h.tl) ?_)
      repeat' first
        | refine k_then ?_ | refine c_ret ?_ | refine k_then_ret ?_ | refine k_blk_ret ?_
      refine retL [.cell 4 100, .tmp 5] [.agg #[.int .i64 v, .int .i64 (l.getD j 0)], .bool true] [] rfl ⟨res_cellk (cs := [.int .i64 v, .int .i64 (l.getD j 0)]) (k := 2) (off := 0) (us := [.int .i64 v, .int .i64 (l.getD j 0)]) rfl (.head _) rfl (by simp [Value.cells]), res_tmp rfl, trivial⟩ (by exact rfl) ⟨?_, rfl⟩
      rfl
    · repeat' first
        | refine k_then ?_ | refine c_region ?_ | refine s_nil ?_ | refine s_move (by exact rfl) (by exact rfl) ?_ | refine s_assign (by exact rfl) (by exact rfl) ?_ | refine s_add (by exact rfl) (by exact rfl) (by exact rfl) (by omega) ?_ | refine c_skip ?_ | refine k_blk ?_ | (refine c_cond_p (by exact rfl) (fun h => ?_) (fun h => ?_) <;> try (exfalso; omega))
      refine c_round (i + 1) [0, 0] (by exact rfl) (by exact ⟨rfl, rfl, rfl, rfl, rfl, trivial⟩) ⟨by omega, ?_⟩ (by omega)
      rw [List.take_add_one, hc]
      intro y hy
      rcases List.mem_append.1 hy with hy | hy
      · exact hq y hy
      · obtain rfl : y = c := by simpa using hy
        exact decide_eq_false hcu
  · rw [List.take_of_length_le (by omega)] at hq
    rw [List.findIdx?_eq_none_iff.2 hq]
    dsimp only
    repeat' first
      | refine k_then ?_ | refine c_seq ?_ | refine c_region ?_ | refine s_nil ?_ | refine s_move (by exact rfl) (by exact rfl) ?_ | refine s_lss (by exact rfl) (by exact rfl) (by exact rfl) ?_ | refine s_len (by exact rfl) (by exact rfl) (by assumption) ?_ | refine c_exit ?_ | refine k_then_exit ?_ | refine k_blk_eq ?_ | (refine c_cond_p (by exact rfl) (fun h => ?_) (fun h => ?_) <;> try (exfalso; omega))
    refine o_build (cs := [.int .i64 0, .int .i64 0]) [] (by exact rfl) (by exact rfl) (by simp) (by exact rfl) ?_
    skip
    refine o_stk_box (i := 0) (us := [.int .i64 0, .int .i64 0]) (by exact rfl) (by exact rfl) (by exact rfl) (by exact rfl) (by exact rfl) (by simp [Value.oneCell']) (by simp [Value.cells]) ?_
    repeat' first
      | refine k_then ?_ | refine s_nil ?_ | refine s_assign (by exact rfl) (by exact rfl) ?_ | refine c_ret ?_
    refine retL [.cell 4 100, .tmp 5] [.agg #[.int .i64 0, .int .i64 0], .bool false] [] rfl ⟨res_cellk (cs := [.int .i64 0, .int .i64 0]) (k := 2) (off := 0) (us := [.int .i64 0, .int .i64 0]) rfl (.head _) rfl rfl, res_tmp rfl, trivial⟩ (by exact rfl) ⟨?_, rfl⟩
    rfl
end Go.Proofs.YtpajjnkmaebhcabGreat
end
section
set_option linter.unusedSimpArgs false
set_option linter.unusedVariables false
namespace Go.Sl
open Go Go.Proofs Go.RowKit Go.Maps
/-- a key of two integers -/
theorem keyOf_two {P : Program} {k e : TypeId} {f g : Field} (hk : P.underlying k = some (.struct #[f, g])) (he : P.underlying e = some (.int .i64)) (hf : f.type = e ∧ f.offset = 0 ∧ f.name ≠ "_") (hg : g.type = e ∧ g.offset = 1 ∧ g.name ≠ "_") (hc : P.cellsOf k = 2) (hce : P.cellsOf e = 1) (hkt : P.keyType k = true) (hsz : ∃ m, P.types.size = m + 1) {a b : Int} (wa : (Lit.int .i64 a).wf = true) (wb : (Lit.int .i64 b).wf = true) :
    keyOf P k (.agg #[.int .i64 a, .int .i64 b]) = some (.string (keyBytes [.int .i64 a, .int .i64 b])) := by
  obtain ⟨m, hm⟩ := hsz
  obtain ⟨f1, f2, f3⟩ := hf
  obtain ⟨g1, g2, g3⟩ := hg
  unfold keyOf
  simp only [hk]
  rw [if_pos (by simp [hkt, Value.formed, hk, hc]), hm]
  unfold Program.keyLits
  simp only [hk, Value.cells]
  rw [if_pos ⟨by rw [hc]; rfl, by simp [f3, g3]⟩]
  simp [f1, f2, g1, g2, hce, Program.keyLits, he, wa, wb]
end Go.Sl
namespace Go.Proofs
open Go Go.RowKit Go.Maps Go.Sl
abbrev okD (d : Nat × Nat) : Prop := d.1 ≤ 9223372036854775807 ∧ d.2 ≤ 9223372036854775807
abbrev ekD (d : Nat × Nat) : Value := .agg #[.int .i64 (d.1 : Int), .int .i64 (d.2 : Int)]
theorem dart_laid : laidOutB Tryz.prog = true := by kernel_rfl
theorem dart_law : WideMaps.KeyLaw Tryz.prog 100 := deep_law_laid dart_laid (m := 3) (by omega) (of_decide_eq_true (by kernel_rfl)) (by kernel_rfl) (by kernel_rfl)
theorem dart_key (d : Nat × Nat) (h : okD d) : ∃ l, keyOf Tryz.prog 100 (ekD d) = some l :=
  ⟨_, keyOf_two (e := 3) Tryz.underlying100 Tryz.underlying3 ⟨rfl, rfl, by decide⟩ ⟨rfl, rfl, by decide⟩ (by kernel_rfl) (by kernel_rfl) (by kernel_rfl) ⟨_, rfl⟩ (wf_i64 ⟨by omega, by have := h.1; omega⟩) (wf_i64 ⟨by omega, by have := h.2; omega⟩)⟩
theorem ekD_inj (a b : Nat × Nat) (h : ekD a = ekD b) : a = b := by
  simp only [ekD, Value.agg.injEq, Array.mk.injEq, List.cons.injEq, Value.int.injEq] at h
  exact Prod.ext (by omega) (by omega)
instance : MapTy Tryz.prog 163 (Nat × Nat) (Nat × Nat) ekD ekD okD (0, 0) 100 where
  e := ⟨100, Tryz.underlying163, fun w => Tryz.zeroValue100 w⟩
  keyed := Keyed.of_law dart_law
  key := dart_key
  inj := ekD_inj
instance : MapTy Tryz.prog 167 (Nat × Nat) Bool ekD Value.bool okD false 100 where
  e := ⟨4, Tryz.underlying167, fun w => Tryz.zeroValue4 w⟩
  keyed := Keyed.of_law dart_law
  key := dart_key
  inj := ekD_inj
end Go.Proofs
end
section
set_option linter.unusedVariables false
namespace Fil
/-- the entries of vertex v -/
def beh (R : List (List Nat)) (v : Nat) : List ((Nat × Nat) × (Nat × Nat)) := (List.range (rf R v).length).map fun i => (((rf R v).getD i 0, v), (v, (rf R v).getD ((i + 1) % (rf R v).length) 0))
def behL (R : List (List Nat)) (k : Nat) : List ((Nat × Nat) × (Nat × Nat)) := (List.range k).flatMap (beh R)
theorem behL_succ (R : List (List Nat)) (k : Nat) : behL R (k + 1) = behL R k ++ beh R k := by simp [behL, List.range_succ]
theorem beh_length (R : List (List Nat)) (v : Nat) : (beh R v).length = (rf R v).length := by simp [beh]
theorem beh_get {R : List (List Nat)} {v i : Nat} (hi : i < (rf R v).length) : (beh R v)[i]? = some (((rf R v).getD i 0, v), (v, (rf R v).getD ((i + 1) % (rf R v).length) 0)) := by rw [beh, List.getElem?_map, List.getElem?_range hi]; rfl
theorem beh_take {R : List (List Nat)} {v i : Nat} (hi : i < (rf R v).length) : (beh R v).take (i + 1) = (beh R v).take i ++ [(((rf R v).getD i 0, v), (v, (rf R v).getD ((i + 1) % (rf R v).length) 0))] := by
  rw [List.take_add_one, beh_get hi]; rfl
theorem beh_new {R : List (List Nat)} {v i : Nat} (hn : (rf R v).Nodup) (hi : i < (rf R v).length) : ((rf R v).getD i 0, v) ∉ (behL R v ++ (beh R v).take i).map Prod.fst := by
  intro h
  rw [List.map_append, List.mem_append] at h
  rcases h with h | h
  · obtain ⟨p, hp, e⟩ := List.mem_map.1 h
    obtain ⟨u, hu, hp⟩ := List.mem_flatMap.1 hp
    obtain ⟨j, hj, rfl⟩ := List.mem_map.1 hp
    have hu := List.mem_range.1 hu
    simp only [Prod.mk.injEq] at e
    omega
  · obtain ⟨p, hp, e⟩ := List.mem_map.1 h
    obtain ⟨j, hj, hp⟩ := List.mem_take_iff_getElem.1 hp
    have hjl : j < (rf R v).length := by rw [beh_length] at hj; omega
    have h1 := beh_get hjl
    rw [List.getElem?_eq_getElem (by rw [beh_length]; omega), hp, Option.some.injEq] at h1
    rw [h1] at e
    simp only [Prod.mk.injEq, and_true] at e
    rw [List.getD_eq_getElem?_getD, List.getD_eq_getElem?_getD, List.getElem?_eq_getElem hjl, List.getElem?_eq_getElem hi] at e
    simp only [Option.getD_some] at e
    have h2 := congrArg (rf R v).idxOf e
    rw [hn.idxOf_getElem, hn.idxOf_getElem] at h2
    have : j < i := by rw [beh_length] at hj; omega
    omega
theorem behL_nodup {R : List (List Nat)} (hn : ∀ v, (rf R v).Nodup) : ∀ k, ((behL R k).map Prod.fst).Nodup
  | 0 => by simp [behL]
  | k + 1 => by
    have key : ∀ i, i ≤ (rf R k).length → ((behL R k ++ (beh R k).take i).map Prod.fst).Nodup := by
      intro i
      induction i with
      | zero => intro _; simpa using behL_nodup hn k
      | succ i ih =>
        intro hi
        have h1 := ih (by omega)
        have h2 := beh_new (hn k) (show i < (rf R k).length by omega)
        rw [beh_take (by omega), ← List.append_assoc, List.map_append, List.nodup_append]
        refine ⟨h1, by simp, fun a ha b hb e => ?_⟩
        obtain rfl : b = ((rf R k).getD i 0, k) := by simpa using hb
        exact h2 (e ▸ ha)
    have h := key _ (Nat.le_refl _)
    rwa [List.take_of_length_le (by rw [beh_length]; exact Nat.le_refl _), ← behL_succ] at h
theorem beh_look {R : List (List Nat)} (hn : ∀ v, (rf R v).Nodup) {k : Nat} {d : Nat × Nat} (hk : d.2 < k) (hd : d.1 ∈ rf R d.2) : (d, nxt (rf R) d) ∈ behL R k := by
  obtain ⟨i, hi, e⟩ := List.getElem_of_mem hd
  refine List.mem_flatMap.2 ⟨d.2, List.mem_range.2 hk, List.mem_map.2 ⟨i, List.mem_range.2 hi, ?_⟩⟩
  have e1 : (rf R d.2).getD i 0 = d.1 := by rw [List.getD_eq_getElem?_getD, List.getElem?_eq_getElem hi, Option.getD_some, e]
  have e2 : cyc (rf R d.2) d.1 = (rf R d.2).getD ((i + 1) % (rf R d.2).length) 0 := by rw [cyc, ← e, (hn d.2).idxOf_getElem]
  rw [e1, nxt, e2]
end Fil
namespace Go.Proofs.YtpajjnkmaebhcabGreat
open Go.RowKit Go.Sl Fil
set_option maxRecDepth 100000
set_option maxHeartbeats 8000000
set_option linter.unusedVariables false
set_option linter.unusedSimpArgs false
attribute [local irreducible] Code.wp wpList bodyPost wpQuiet Exit.then Exit.inBlock Post wpAnyH wpOp
theorem behind_ok (vr : Value) (hr0 : List Value) (R : List (List Nat)) (w : World) (hR : ROs w No vr hr0 R) (hn : ∀ v, (rf R v).Nodup) (hlt : ∀ v, ∀ u ∈ rf R v, u ≤ 1048576) (hN : R.length ≤ 1048576) (hl : ∀ v, (rf R v).length ≤ 1048576) :
    Calls Tryz.prog 118 #[vr] w (Post w No fun r L' => L' = [mapHP ekD ekD okD r (behL R R.length)]) := by
  have hsr := hR.shp
  have hrr := hR.ro
  refine enter0 (vs := [_]) Tryz.func118 rfl Tryz.ntmps118 rfl ?_
  repeat' first
    | refine k_then ?_ | refine c_seq ?_ | refine c_region ?_ | refine s_nil ?_ | refine s_assign (by exact rfl) (by exact rfl) ?_
  refine o_makeMap (by exact rfl) fun b => ?_
  repeat' first
    | refine k_then ?_ | refine c_seq ?_ | refine c_region ?_ | refine s_nil ?_ | refine s_move (by exact rfl) (by exact rfl) ?_ | refine s_assign (by exact rfl) (by exact rfl) ?_ | refine s_len (by exact rfl) (by exact rfl) (by assumption) ?_ | refine c_block ?_
  refine c_loop (fun k : Nat => k ≤ R.length) (fun k => [(3, .map (some b)), (9, vr), (10, .int .i64 (R.length : Int)), (11, .int .i64 (k : Int))]) (fun k => [mapHP ekD ekD okD (.map (some b)) (behL R k)]) (fun k => R.length - k) 0 [0] (Nat.zero_le _) rfl ⟨rfl, rfl, rfl, rfl, trivial⟩ ?_
  rintro k hk
  by_cases hlt1 : k < R.length
  · obtain ⟨hx, hhx⟩ : ∃ x, hr0[k]? = some x := ⟨_, List.getElem?_eq_getElem (by have := hR.len; omega)⟩
    obtain ⟨l, hl1⟩ : ∃ l, R[k]? = some l := ⟨_, List.getElem?_eq_getElem hlt1⟩
    obtain ⟨hsx, hrx⟩ := hR.kid k hx l hhx hl1
    have hgd : rf R k = l := by rw [rf, List.getD_eq_getElem?_getD, hl1]; rfl
    have h1' : hr0[k * 1]? = some hx := by rw [Nat.mul_one]; exact hhx
    have hll := hl k
    rw [hgd] at hll
    repeat' first
      | refine k_then ?_ | refine c_seq ?_ | refine c_region ?_ | refine s_nil ?_ | refine s_move (by exact rfl) (by exact rfl) ?_ | refine s_assign (by exact rfl) (by exact rfl) ?_ | refine s_lss (by exact rfl) (by exact rfl) (by exact rfl) ?_ | refine s_len (by exact rfl) (by exact rfl) (by assumption) ?_ | refine s_idx (by exact rfl) (by exact rfl) (by exact rfl) (by assumption) (by first | assumption | omega) ?_ | refine s_ld_ro (by exact rfl) (by exact rfl) (by assumption) (by assumption) ?_ | refine c_block ?_ | refine c_skip ?_ | (refine c_cond_p (by exact rfl) (fun h => ?_) (fun h => ?_) <;> try (exfalso; omega))
    refine c_loop (fun i : Nat => i ≤ l.length) (fun i => [(3, .map (some b)), (9, vr), (10, .int .i64 (R.length : Int)), (11, .int .i64 (k : Int)), (4, .int .i64 (k : Int)), (5, hx), (16, hx), (17, .int .i64 (l.length : Int)), (18, .int .i64 (i : Int))]) (fun i => [mapHP ekD ekD okD (.map (some b)) (behL R k ++ (beh R k).take i)]) (fun i => l.length - i) 0 [0] (Nat.zero_le _) (by simp [pick]) ⟨rfl, rfl, rfl, rfl, rfl, rfl, rfl, rfl, rfl, trivial⟩ ?_
    rintro i hi
    by_cases hlt2 : i < l.length
    · have h2' := nV_get hlt2
      have hml : (i + 1) % l.length < l.length := Nat.mod_lt _ (by omega)
      have h3' := nV_get hml
      have hmod : ((i : Int) + 1) % (l.length : Int) = (((i + 1) % l.length : Nat) : Int) := by simp
      repeat' first
        | refine k_then ?_ | refine c_seq ?_ | refine c_region ?_ | refine s_nil ?_ | refine s_move (by exact rfl) (by exact rfl) ?_ | refine s_assign (by exact rfl) (by exact rfl) ?_ | refine s_lss (by exact rfl) (by exact rfl) (by exact rfl) ?_ | refine s_idx (by exact rfl) (by exact rfl) (by exact rfl) (by assumption) (by first | assumption | omega) ?_ | refine s_ld_ro (by exact rfl) (by exact rfl) (by assumption) (by assumption) ?_ | refine c_block ?_ | refine c_skip ?_ | (refine c_cond_p (by exact rfl) (fun h => ?_) (fun h => ?_) <;> try (exfalso; omega))
      have hgi : (rf R k).getD i 0 = l.getD i 0 := by rw [hgd]
      have hu1 : l.getD i 0 ≤ 1048576 := by
        rw [List.getD_eq_getElem?_getD, List.getElem?_eq_getElem hlt2, Option.getD_some]
        exact hlt k _ (by rw [hgd]; exact List.getElem_mem _)
      refine o_build (cs := [.int .i64 (l.getD i 0 : Nat), .int .i64 (k : Int)]) [(0, .int .i64 (l.getD i 0 : Nat), [.int .i64 (l.getD i 0 : Nat)]), (1, .int .i64 (k : Int), [.int .i64 (k : Int)])] (by exact rfl) (by exact rfl) (by simp [Value.cells]) (by exact rfl) ?_
      repeat' first
        | refine s_move (by exact rfl) (by exact rfl) ?_ | refine s_add (by exact rfl) (by exact rfl) (by exact rfl) (by omega) ?_ | refine s_rem (by exact rfl) (by exact rfl) (by exact rfl) (by omega) ?_ | refine s_len (by exact rfl) (by exact rfl) (by assumption) ?_ | refine s_idx (by exact rfl) (by exact rfl) (by exact rfl) (by assumption) (by first | assumption | omega) ?_ | refine s_ld_ro (by exact rfl) (by exact rfl) (by assumption) (by assumption) ?_
      rw [hmod]
      skip
      refine o_build (cs := [.int .i64 (k : Int), .int .i64 (l.getD ((i + 1) % l.length) 0 : Nat)]) [(0, .int .i64 (k : Int), [.int .i64 (k : Int)]), (1, .int .i64 (l.getD ((i + 1) % l.length) 0 : Nat), [.int .i64 (l.getD ((i + 1) % l.length) 0 : Nat)])] (by exact rfl) (by exact rfl) (by simp [Value.cells]) (by exact rfl) ?_
      skip
      refine o_mapup (ek := ekD) (ev := ekD) (ok := okD) (i := 0) (l.getD i 0, k) (k, l.getD ((i + 1) % l.length) 0) (by exact rfl) (by exact rfl) (by exact rfl) (by exact rfl) rfl rfl ⟨by dsimp only; omega, by dsimp only; omega⟩ ?_
      have hput : putK (behL R k ++ (beh R k).take i) (l.getD i 0, k) (k, l.getD ((i + 1) % l.length) 0) = behL R k ++ (beh R k).take (i + 1) := by
        have h1 := beh_new (hn k) (by rw [hgd]; exact hlt2)
        have h2 := beh_take (R := R) (v := k) (i := i) (by rw [hgd]; exact hlt2)
        rw [hgd] at h1 h2
        rw [putK_new h1, h2, List.append_assoc]
      rw [hput]
      repeat' first
        | refine k_then ?_ | refine c_region ?_ | refine s_nil ?_ | refine s_move (by exact rfl) (by exact rfl) ?_ | refine s_add (by exact rfl) (by exact rfl) (by exact rfl) (by omega) ?_ | refine k_blk ?_
      refine c_round (i + 1) [0] (by exact rfl) (by exact ⟨rfl, rfl, rfl, rfl, rfl, rfl, rfl, rfl, rfl, trivial⟩) (by omega) (by omega)
    · repeat' first
        | refine k_then ?_ | refine c_seq ?_ | refine c_region ?_ | refine s_nil ?_ | refine s_move (by exact rfl) (by exact rfl) ?_ | refine s_lss (by exact rfl) (by exact rfl) (by exact rfl) ?_ | refine s_add (by exact rfl) (by exact rfl) (by exact rfl) (by omega) ?_ | refine c_exit ?_ | refine k_then_exit ?_ | refine k_blk ?_ | refine k_blk_eq ?_ | (refine c_cond_p (by exact rfl) (fun h => ?_) (fun h => ?_) <;> try (exfalso; omega))
      obtain rfl : i = l.length := by omega
      rw [List.take_of_length_le (by rw [beh_length, hgd]; exact Nat.le_refl _), ← behL_succ]
      refine c_round (k + 1) [0] (by exact rfl) (by exact ⟨rfl, rfl, rfl, rfl, trivial⟩) (by omega) (by omega)
  · repeat' first
      | refine k_then ?_ | refine c_seq ?_ | refine c_region ?_ | refine s_nil ?_ | refine s_move (by exact rfl) (by exact rfl) ?_ | refine s_assign (by exact rfl) (by exact rfl) ?_ | refine s_lss (by exact rfl) (by exact rfl) (by exact rfl) ?_ | refine c_exit ?_ | refine c_ret ?_ | refine k_then_exit ?_ | refine k_blk_eq ?_ | (refine c_cond_p (by exact rfl) (fun h => ?_) (fun h => ?_) <;> try (exfalso; omega))
    obtain rfl : k = R.length := by omega
    refine ret1 [0] rfl rfl rfl rfl
end Go.Proofs.YtpajjnkmaebhcabGreat
end
section
set_option linter.unusedVariables false
namespace Fil
def cmpD (a b : Nat × Nat) : Int := if cmpK (a.1 : Int) (b.1 : Int) = 0 then cmpK (a.2 : Int) (b.2 : Int) else cmpK (a.1 : Int) (b.1 : Int)
end Fil
namespace Go.Proofs.YtpajjnkmaebhcabGreat
open Go.RowKit Go.Sl Fil
set_option maxRecDepth 100000
set_option maxHeartbeats 8000000
set_option linter.unusedVariables false
set_option linter.unusedSimpArgs false
attribute [local irreducible] Code.wp wpList bodyPost wpQuiet Exit.then Exit.inBlock Post wpAnyH wpOp
theorem dartOrder_ok (a b : Nat × Nat) (w : World) : Calls Tryz.prog 120 #[ekD a, ekD b] w (Post w No (Just (.int .i64 (cmpD a b)))) := by
  refine enter0 (vs := [_, _]) Tryz.func120 rfl Tryz.ntmps120 rfl ?_
  repeat' first
    | refine k_then ?_ | refine c_seq ?_ | refine c_region ?_ | refine s_nil ?_ | refine s_assign (by exact rfl) (by exact rfl) ?_ | refine o_box (by exact rfl) (by exact rfl) (fun b => ?_)
  refine p_begin0 [(0, true), (1, true), (2, true), (3, true), (5, true), (6, true), (7, true), (8, true), (4, false), (9, false), (10, false), (11, false), (12, true)] (by kernel_rfl) ?_
  repeat' first
    | (refine p_at (by exact rfl) ?_
       first
        | refine t_fa (by exact rfl) (by exact rfl) (by exact fun _ h => h) ?_ | refine t_ld_box (by exact rfl) (by exact rfl) (by first | exact .head _ | exact .tail _ (.head _)) (by exact rfl) (by exact fun _ h => h) ?_)
  refine p_call (gd := none) (by exact rfl) rfl (by exact rfl) (fun w hs => Compare_ok _ _ w) (by exact fun _ h => h) ?_
  refine p_call (gd := none) (by exact rfl) rfl (by exact rfl) (fun w hs => Compare_ok _ _ w) (by exact fun _ h => h) ?_
  refine p_mk [_, _] (by exact rfl) rfl (by exact rfl) rfl ?_ ?_ (by simp) (fun w A h => h.tl) (fun s hs => ?_)
  · simp [Value.cells]
  · simp
  refine p_call (gd := none) (by exact rfl) rfl (by exact rfl) (fun w h => Or_ok s _ _ w (ro_own h (.head _)) hs) (by exact fun _ h => h.tl) ?_
  repeat' first
    | refine p_nil ?_
    | (refine p_at (by exact rfl) ?_
       first
        | refine t_assign (by exact rfl) (by exact rfl) (by exact fun _ h => h.tl) ?_)
  repeat' first
    | refine k_then ?_ | refine c_ret ?_
  refine ret1 [] rfl rfl rfl ⟨?_, rfl⟩
  simp [cmpD]
end Go.Proofs.YtpajjnkmaebhcabGreat
end
section
set_option linter.unusedVariables false
set_option linter.unusedSectionVars false
namespace Fil
def leD (a b : Nat × Nat) : Bool := decide (a.1 < b.1 ∨ a.1 = b.1 ∧ a.2 ≤ b.2)
theorem leD_anti {a b : Nat × Nat} (h1 : leD a b = true) (h2 : leD b a = true) : a = b := by
  have h1 := of_decide_eq_true h1
  have h2 := of_decide_eq_true h2
  exact Prod.ext (by omega) (by omega)
theorem leD_sort (l : List (Nat × Nat)) : (l.mergeSort leD).Pairwise fun a b => leD a b = true :=
  List.pairwise_mergeSort (fun a b c h1 h2 => by
    have h1 := of_decide_eq_true h1
    have h2 := of_decide_eq_true h2
    exact decide_eq_true (by omega)) (fun a b => by
    unfold leD
    by_cases h : a.1 < b.1 ∨ a.1 = b.1 ∧ a.2 ≤ b.2
    · rw [decide_eq_true h, Bool.true_or]
    · rw [decide_eq_false h, Bool.false_or]
      exact decide_eq_true (by omega)) l
/-- the two darts of each edge -/
def dartsE (l : List (Nat × Nat)) : List (Nat × Nat) := l.flatMap fun e => [(e.1, e.2), (e.2, e.1)]
theorem dartsE_snoc (l : List (Nat × Nat)) (e : Nat × Nat) : dartsE (l ++ [e]) = dartsE l ++ [(e.1, e.2), (e.2, e.1)] := by simp [dartsE]
theorem dartsE_length : ∀ (l : List (Nat × Nat)), (dartsE l).length = 2 * l.length
  | [] => rfl
  | e :: l => by
    have := dartsE_length l
    simp only [dartsE, List.flatMap_cons, List.length_append, List.length_cons, List.length_nil] at this ⊢
    omega
theorem mem_dartsE {l : List (Nat × Nat)} {d : Nat × Nat} : d ∈ dartsE l ↔ d ∈ l ∨ (d.2, d.1) ∈ l := by
  rw [dartsE, List.mem_flatMap]
  constructor
  · rintro ⟨e, he, hd⟩
    simp only [List.mem_cons, List.not_mem_nil, or_false] at hd
    rcases hd with rfl | rfl
    · exact .inl he
    · exact .inr he
  · rintro (h | h)
    · exact ⟨d, h, by simp⟩
    · exact ⟨_, h, by simp⟩
theorem dartsE_nodup : ∀ {l : List (Nat × Nat)}, l.Nodup → (∀ e ∈ l, e.1 < e.2) → (dartsE l).Nodup
  | [], _, _ => by simp [dartsE]
  | e :: l, hn, hl => by
    rw [List.nodup_cons] at hn
    have ih := dartsE_nodup hn.2 fun f hf => hl f (.tail _ hf)
    have h1 := hl e (.head _)
    show ([(e.1, e.2), (e.2, e.1)] ++ dartsE l).Nodup
    refine List.nodup_append.2 ⟨by simp; omega, ih, fun a ha b hb h => ?_⟩
    subst h
    simp only [List.mem_cons, List.not_mem_nil, or_false] at ha
    rcases mem_dartsE.1 hb with hb | hb
    · rcases ha with rfl | rfl
      · exact hn.1 hb
      · have := hl _ (.tail _ hb); simp at this; omega
    · rcases ha with rfl | rfl
      · have := hl _ (.tail _ hb); simp at this; omega
      · exact hn.1 hb
variable {n : Int} {es : List E} {R : List (List Nat)} {o lab : Nat → Nat}
theorem nearS_sort (l : List (Nat × Nat)) (v : Nat) : (nearS l v).Pairwise fun a b => a ≤ b :=
  (List.pairwise_mergeSort (fun a b c h1 h2 => by simp at *; omega) (fun a b => by simp; omega) (nb l v)).imp fun h => by simpa using h
theorem dartsAll_sort (N : Nat) (l : List (Nat × Nat)) : (dartsAll N l).Pairwise fun a b => leD a b = true := by
  rw [dartsAll, dartsOf, List.pairwise_flatMap]
  refine ⟨fun v _ => ?_, List.pairwise_lt_range.imp fun {a b} h x hx y hy => ?_⟩
  · rw [vc, List.pairwise_map]
    exact (nearS_sort l v).imp fun h => decide_eq_true (.inr ⟨rfl, h⟩)
  · have h1 := (mem_vc.1 hx).1
    have h2 := (mem_vc.1 hy).1
    exact decide_eq_true (.inl (by omega))
theorem mem_dartsAll (hR : RightG n es) {d : Nat × Nat} : d ∈ dartsAll n.toNat (tn es) ↔ d ∈ tn es ∨ (d.2, d.1) ∈ tn es := by
  rw [← (darts_all hR (near_rot hR)).mem_iff, mem_darts, ((near_rot hR).sys hR).ed, List.mem_range]
  refine ⟨fun h => h.2, fun h => ⟨?_, h⟩⟩
  have hG := hR.good
  rcases h with h | h
  · have := hG.lt _ h; omega
  · have := hG.lt _ h; simp at this; omega
theorem dartsAll_nodup (hR : RightG n es) : (dartsAll n.toNat (tn es)).Nodup :=
  (darts_all hR (near_rot hR)).nodup_iff.1 (darts_nodup ((near_rot hR).sys hR) List.nodup_range)
theorem darts_sorted (hR : RightG n es) : (dartsE (tn es)).mergeSort leD = dartsAll n.toNat (tn es) := by
  have hp : (dartsE (tn es)).Perm (dartsAll n.toNat (tn es)) := perm_of_nodup (dartsE_nodup (tn_nodup hR) fun e he => (hR.good.lt e he).1) (dartsAll_nodup hR) fun d => by rw [mem_dartsE, mem_dartsAll hR]
  exact ((List.mergeSort_perm _ _).trans hp).eq_of_pairwise (fun a b _ _ h1 h2 => leD_anti h1 h2) (leD_sort _) (dartsAll_sort _ _)
theorem dartsAll_length (hR : RightG n es) : (dartsAll n.toNat (tn es)).length = 2 * es.length := by
  rw [← darts_sorted hR, List.length_mergeSort, dartsE_length, tn, List.length_map]
theorem dart_in (hR : RightG n es) (h : RotL n.toNat (tn es) R) {d : Nat × Nat} : d ∈ dartsAll n.toNat (tn es) ↔ d.2 ∈ rf R d.1 := by
  rw [mem_dartsAll hR, (h.sys hR).ed]
theorem dart_lt (hR : RightG n es) {d : Nat × Nat} (hd : d ∈ dartsAll n.toNat (tn es)) : d.1 < n.toNat ∧ d.2 < n.toNat := by
  have hG := hR.good
  rcases (mem_dartsAll hR).1 hd with h | h
  · have := hG.lt _ h; omega
  · have := hG.lt _ h; simp at this; omega
theorem all_inj (hR : RightG n es) (h : RotL n.toNat (tn es) R) : ∀ a ∈ dartsAll n.toNat (tn es), ∀ b ∈ dartsAll n.toNat (tn es), nxt (rf R) a = nxt (rf R) b → a = b := fun a ha b hb e =>
  nxt_inj (h.sys hR) a ((darts_all hR h).mem_iff.2 ha) b ((darts_all hR h).mem_iff.2 hb) e
theorem all_mem (hR : RightG n es) (h : RotL n.toNat (tn es) R) : ∀ a ∈ dartsAll n.toNat (tn es), nxt (rf R) a ∈ dartsAll n.toNat (tn es) := fun a ha =>
  (darts_all hR h).mem_iff.1 (nxt_mem (h.sys hR) (fun v _ u hu => List.mem_range.2 (h.lt hR hu).1) a ((darts_all hR h).mem_iff.2 ha))
/-- all faces -/
def facesR (N : Nat) (l : List (Nat × Nat)) (R : List (List Nat)) : List (List (Nat × Nat)) := facesL (nxt (rf R)) (2 * l.length + 1) (dartsAll N l)
theorem tn_len (es : List E) : (tn es).length = es.length := by rw [tn, List.length_map]
theorem facesR_dec (hR : RightG n es) (h : RotL n.toNat (tn es) R) : Dec (nxt (rf R)) (dartsAll n.toNat (tn es)) (facesR n.toNat (tn es) R) :=
  faces_dec (dartsAll_nodup hR) (all_inj hR h) (all_mem hR h) (by rw [dartsAll_length hR, tn_len]; omega)
theorem tr_of {α : Type} [DecidableEq α] {F : α → α} {d : α} : ∀ {l : List α} {x : α} {n : Nat}, st F l x d → l ≠ [] → d ∉ l.tail → l.length ≤ n → tr F d n x = l
  | [], _, _, _, h, _, _ => absurd rfl h
  | a :: l, x, 0, _, _, _, h => by simp at h
  | a :: l, x, n + 1, ⟨e, h⟩, _, hd, hn => by
    subst e
    cases l with
    | nil =>
      have : F x = d := h
      rw [tr, if_pos this]
    | cons b l =>
      have hb : F x = b := h.1
      have hd' : d ∉ b :: l := hd
      rw [tr, if_neg fun e => hd' (by rw [← e, hb]; exact .head _)]
      exact congrArg _ (tr_of h (by simp) (fun h => hd' (.tail _ h)) (by simpa using hn))
theorem InF.tr {α : Type} [DecidableEq α] {F : α → α} {ds : List α} {out : List (List α)} {d : α} {f : List α} (h : InF F ds out d f d) (hf : f ≠ []) {n : Nat} (hn : f.length ≤ n) : tr F d n d = f := by
  refine tr_of h.st hf (fun hd => ?_) hn
  cases f with
  | nil => exact absurd rfl hf
  | cons a f =>
    have e : d = a := h.st.1
    have := (List.nodup_cons.1 h.nd).1
    exact this (e ▸ hd)
theorem near_filter (hR : RightG n es) (h : RotL n.toNat (tn es) R) (u : Nat) : (List.range n.toNat).filter (fun v => decide (v ∈ rf R u)) = nearS (tn es) u := by
  refine (perm_of_nodup (m := nearS (tn es) u) (List.nodup_range.sublist List.filter_sublist) ((List.mergeSort_perm _ _).nodup_iff.2 (nb_nd hR.good (tn_nodup hR) u)) fun a => ?_).eq_of_pairwise (fun a b _ _ h1 h2 => Nat.le_antisymm h1 h2) ((List.pairwise_lt_range.sublist List.filter_sublist).imp fun h => Nat.le_of_lt h) (nearS_sort _ _)
  rw [List.mem_filter, mem_nearS, ← h.mem hR, List.mem_range, decide_eq_true_iff]
  exact ⟨fun h => h.2, fun h' => ⟨(h.lt hR h').1, h'⟩⟩
end Fil
end
section
set_option linter.unusedVariables false
namespace Go.Proofs
open Go.Shelf
def Tryz.sortDarts_ren : Go.Shelf.Ren := ⟨fun | 6 => 119 | 15 => 81 | 14 => 147 | 28 => 113 | 29 => 114 | 20 => 156 | 21 => 157 | 22 => 158 | 23 => 159 | 24 => 160 | 25 => 161 | 26 => 162 | 27 => 163 | 46 => 166 | 47 => 142 | 48 => 143 | 49 => 167 | 50 => 168 | 57 => 169 | n => n, fun | 22 => 101 | 24 => 100 | 25 => 166 | 3 => 3 | 39 => 111 | 0 => 0 | 53 => 156 | 55 => 158 | 4 => 4 | 46 => 149 | 45 => 148 | 50 => 78 | 5 => 5 | 9 => 9 | 66 => 187 | 70 => 191 | 76 => 197 | 77 => 93 | n => n, fun | n => n⟩
theorem Tryz.sortDarts : Go.Proofs.SlLaysF0.n6 Tryz.prog Tryz.sortDarts_ren := {
  mixed := by kernel_rfl
  f6 := ⟨Tryz.f119.name, by decide, Tryz.func119.trans (congrArg some (by kernel_rfl))⟩
  f14 := ⟨Tryz.f147.name, by decide, Tryz.func147.trans (congrArg some (by kernel_rfl))⟩
  f15 := Tryz.func81.trans (congrArg some (by kernel_rfl))
  f20 := ⟨Tryz.f156.name, by decide, Tryz.func156.trans (congrArg some (by kernel_rfl))⟩
  f21 := ⟨Tryz.f157.name, by decide, Tryz.func157.trans (congrArg some (by kernel_rfl))⟩
  f22 := ⟨Tryz.f158.name, by decide, Tryz.func158.trans (congrArg some (by kernel_rfl))⟩
  f23 := ⟨Tryz.f159.name, by decide, Tryz.func159.trans (congrArg some (by kernel_rfl))⟩
  f24 := ⟨Tryz.f160.name, by decide, Tryz.func160.trans (congrArg some (by kernel_rfl))⟩
  f25 := ⟨Tryz.f161.name, by decide, Tryz.func161.trans (congrArg some (by kernel_rfl))⟩
  f26 := ⟨Tryz.f162.name, by decide, Tryz.func162.trans (congrArg some (by kernel_rfl))⟩
  f27 := ⟨Tryz.f163.name, by decide, Tryz.func163.trans (congrArg some (by kernel_rfl))⟩
  f28 := Tryz.func113.trans (congrArg some (by kernel_rfl))
  f29 := Tryz.func114.trans (congrArg some (by kernel_rfl))
  f46 := ⟨Tryz.f166.name, by decide, Tryz.func166.trans (congrArg some (by kernel_rfl))⟩
  f47 := Tryz.func142.trans (congrArg some (by kernel_rfl))
  f48 := Tryz.func143.trans (congrArg some (by kernel_rfl))
  f49 := ⟨Tryz.f167.name, by decide, Tryz.func167.trans (congrArg some (by kernel_rfl))⟩
  f50 := ⟨Tryz.f168.name, by decide, Tryz.func168.trans (congrArg some (by kernel_rfl))⟩
  f57 := ⟨Tryz.f169.name, by decide, Tryz.func169.trans (congrArg some (by kernel_rfl))⟩
  t0 := Tryz.underlying0
  a0 := Tryz.isAgg0
  z0 := Tryz.sizeOf0
  v0 := Tryz.zeroValue0
  t3 := Tryz.underlying3
  a3 := Tryz.isAgg3
  z3 := Tryz.sizeOf3
  v3 := Tryz.zeroValue3
  t4 := Tryz.underlying4
  a4 := Tryz.isAgg4
  z4 := Tryz.sizeOf4
  v4 := Tryz.zeroValue4
  t5 := Tryz.underlying5
  a5 := Tryz.isAgg5
  z5 := Tryz.sizeOf5
  v5 := Tryz.zeroValue5
  t9 := Tryz.underlying9
  a9 := Tryz.isAgg9
  z9 := Tryz.sizeOf9
  v9 := Tryz.zeroValue9
  t22 := Tryz.underlying101
  a22 := Tryz.isAgg101
  z22 := Tryz.sizeOf101
  v22 := Tryz.zeroValue101
  t25 := Tryz.underlying166
  a25 := Tryz.isAgg166
  z25 := Tryz.sizeOf166
  v25 := Tryz.zeroValue166
  t39 := Tryz.underlying111
  a39 := Tryz.isAgg111
  z39 := Tryz.sizeOf111
  v39 := Tryz.zeroValue111
  t45 := Tryz.underlying148
  a45 := Tryz.isAgg148
  z45 := Tryz.sizeOf148
  v45 := Tryz.zeroValue148
  t46 := Tryz.underlying149
  a46 := Tryz.isAgg149
  z46 := Tryz.sizeOf149
  v46 := Tryz.zeroValue149
  t50 := Tryz.underlying78
  a50 := Tryz.isAgg78
  z50 := Tryz.sizeOf78
  v50 := Tryz.zeroValue78
  t53 := Tryz.underlying156
  a53 := Tryz.isAgg156
  z53 := Tryz.sizeOf156
  v53 := Tryz.zeroValue156
  t55 := Tryz.underlying158
  a55 := Tryz.isAgg158
  z55 := Tryz.sizeOf158
  v55 := Tryz.zeroValue158
  t66 := Tryz.underlying187
  a66 := Tryz.isAgg187
  z66 := Tryz.sizeOf187
  v66 := Tryz.zeroValue187
  t70 := Tryz.underlying191
  a70 := Tryz.isAgg191
  z70 := Tryz.sizeOf191
  v70 := Tryz.zeroValue191
  t76 := Tryz.underlying197
  a76 := Tryz.isAgg197
  z76 := Tryz.sizeOf197
  v76 := Tryz.zeroValue197
  t77 := Tryz.underlying93
  a77 := Tryz.isAgg93
  z77 := Tryz.sizeOf93
  v77 := Tryz.zeroValue93 }
end Go.Proofs
namespace Go.Sl
open Go Go.RowKit Go.Sort Go.Proofs Fil
def encD (d : Nat × Nat) : List Value := [.int .i64 (d.1 : Int), .int .i64 (d.2 : Int)]
def dsV (l : List (Nat × Nat)) : List Value := l.flatMap encD
theorem dsV_length : ∀ (l : List (Nat × Nat)), (dsV l).length = l.length * 2
  | [] => rfl
  | a :: l => by
    have := dsV_length l
    simp only [dsV, List.flatMap_cons, List.length_append, List.length_cons, encD, List.length_nil] at this ⊢
    omega
theorem dsV_get : ∀ {l : List (Nat × Nat)} {i : Nat} {d : Nat × Nat}, l[i]? = some d → (dsV l)[i * 2]? = some (.int .i64 (d.1 : Int)) ∧ (dsV l)[i * 2 + 1]? = some (.int .i64 (d.2 : Int))
  | a :: l, 0, d, h => by
    obtain rfl : a = d := by simpa using h
    exact ⟨rfl, rfl⟩
  | a :: l, i + 1, d, h => by
    have := dsV_get (l := l) (i := i) (by simpa using h)
    have e : dsV (a :: l) = .int .i64 (a.1 : Int) :: .int .i64 (a.2 : Int) :: dsV l := rfl
    rw [e, show (i + 1) * 2 = i * 2 + 1 + 1 by omega, List.getElem?_cons_succ, List.getElem?_cons_succ, show i * 2 + 1 + 1 + 1 = (i * 2 + 1) + 1 + 1 by omega, List.getElem?_cons_succ, List.getElem?_cons_succ]
    exact this
theorem dsV_one (l : List (Nat × Nat)) : ∀ u ∈ dsV l, u.oneCell' = true := fun u hu => by
  obtain ⟨d, _, hu⟩ := List.mem_flatMap.1 hu
  simp only [encD, List.mem_cons, List.not_mem_nil, or_false] at hu
  rcases hu with rfl | rfl <;> rfl
theorem flat_dsV (l : List (Nat × Nat)) : (flatK encD 2 l.toArray).toList = dsV l := by
  apply List.ext_getElem?
  intro j
  by_cases hj : j < l.length * 2
  · obtain ⟨d, hd⟩ : ∃ d, l[j / 2]? = some d := ⟨_, List.getElem?_eq_getElem (by omega)⟩
    obtain ⟨g1, g2⟩ := dsV_get hd
    have hlt : j / 2 < l.length := by omega
    have hdd : l[j / 2] = d := (List.getElem?_eq_some_iff.1 hd).2
    have e1 : (flatK encD 2 l.toArray).toList[j]? = some ((encD d)[j % 2]!) := by
      rw [Array.getElem?_toList]
      simp [flatK, hj, hlt, hdd]
    rw [e1]
    have : j % 2 = 0 ∨ j % 2 = 1 := by omega
    rcases this with h | h
    · rw [h, show j = j / 2 * 2 by omega, g1]; rfl
    · rw [h]
      have e2 : j = j / 2 * 2 + 1 := by omega
      rw [e2, g2]; rfl
  · rw [List.getElem?_eq_none (by simp; omega), List.getElem?_eq_none (by rw [dsV_length]; omega)]
theorem putCells_id (cur : Array Value) (off : Nat) (ts : List Value) (h : off + ts.length ≤ cur.size) : ((putCells id off ts.toArray cur).toList.drop off).take ts.length = ts := by
  apply List.ext_getElem?
  intro j
  by_cases hj : j < ts.length
  · rw [List.getElem?_take_of_lt hj, List.getElem?_drop, Array.getElem?_toList]
    simp [putCells, hj, show off + j < cur.size by omega]
  · rw [List.getElem?_take_eq_none (by omega), List.getElem?_eq_none (by omega)]
theorem mod_grow {w w' : World} {S' : FS} (h : Mod w No w' S') : ∃ q os', w' = grow (w.drewN q) os' := by
  refine ⟨w'.drawn - w.drawn, w'.heap.extract w.heap.size w'.heap.size, ?_⟩
  obtain ⟨heap, tape, drawn, os, output⟩ := w
  obtain ⟨heap', tape', drawn', os', output'⟩ := w'
  obtain ⟨h1, h2, h3, h4, h5, h6, _⟩ := h
  dsimp only at *
  subst h1 h2 h3
  simp only [grow, World.drewN, World.mk.injEq, true_and, and_true]
  refine ⟨?_, by omega⟩
  apply Array.ext_getElem?
  intro k
  by_cases hk : k < heap.size
  · rw [Array.getElem?_append_left hk]
    exact h6 k hk (fun h => h)
  · rw [Array.getElem?_append_right (by omega)]
    by_cases hk2 : k < heap'.size
    · rw [Array.getElem?_extract]
      simp
      rw [show heap.size + (k - heap.size) = k by omega]
      rw [if_pos (by omega)]
    · rw [Array.getElem?_eq_none (by omega), Array.getElem?_eq_none (by simp; omega)]
end Go.Sl
namespace Go.Proofs.YtpajjnkmaebhcabGreat
open Go.RowKit Go.Sl Fil Go.Sort Go.Shelf
theorem cmpK_lt {a b : Int} : cmpK a b < 0 ↔ a < b := by
  unfold cmpK
  (repeat' split) <;> omega
theorem cmpK_eq {a b : Int} : cmpK a b = 0 ↔ a = b := by
  unfold cmpK
  (repeat' split) <;> omega
theorem cmpD_lt {a b : Nat × Nat} : cmpD a b < 0 ↔ a.1 < b.1 ∨ a.1 = b.1 ∧ a.2 < b.2 := by
  unfold cmpD
  split
  · rename_i h
    have := cmpK_eq.1 h
    rw [cmpK_lt]; omega
  · rename_i h
    have : ¬ (a.1 : Int) = b.1 := fun e => h (cmpK_eq.2 e)
    rw [cmpK_lt]; omega
theorem leD_eq (a b : Nat × Nat) : (!(ltOf cmpD) b a) = leD a b := by
  have h := @cmpD_lt b a
  rw [ltOf, leD, ← decide_not]
  refine decide_eq_decide.2 ?_
  rw [h]; omega
theorem swo_D : SWO (ltOf cmpD) where
  irrefl x := decide_eq_false fun h => by have := cmpD_lt.1 h; omega
  trans x y z h1 h2 := by
    have a := cmpD_lt.1 (of_decide_eq_true h1)
    have b := cmpD_lt.1 (of_decide_eq_true h2)
    exact decide_eq_true (cmpD_lt.2 (by omega))
  ntrans x y z h1 h2 := by
    have a : ¬ _ := fun h => of_decide_eq_false h1 (cmpD_lt.2 h)
    have b : ¬ _ := fun h => of_decide_eq_false h2 (cmpD_lt.2 h)
    exact decide_eq_false fun h => by have := cmpD_lt.1 h; omega
theorem dartSort_row {w : World} {v : Value} {e : TypeId} {l : List (Nat × Nat)} {S : FS} (h : (rowHP v e 2 l.length (dsV l)).sat S w) (hlen : l.length < 4611686018427387904) :
    Calls Tryz.prog 119 #[v, .func (.func 120) #[] #[]] w (Post w S fun r L' => r = .tuple #[] ∧ L' = [rowHP v e 2 l.length (dsV (l.mergeSort leD))]) := by
  have hnone : l.length = 0 → ∀ p, v = .slice p 0 0 → Calls Tryz.prog 119 #[v, .func (.func 120) #[] #[]] w (Post w S fun r L' => r = .tuple #[] ∧ L' = [rowHP v e 2 l.length (dsV (l.mergeSort leD))]) := fun h0 p hp => by
    have hl : l = [] := List.eq_nil_of_length_eq_zero h0
    subst hl
    subst hp
    have c := AnyF.slices_SortFunc_none Tryz.sortDarts p 0 (.func (.func 120) #[] #[]) w
    change Calls Tryz.prog 119 _ _ _ at c
    refine Calls.mono c ?_
    rintro e' w' ⟨rfl, hw⟩
    subst hw
    refine ⟨_, _, ⟨rfl, rfl⟩, rfl, S, Mod.refl _ _, S, fun _ => False, fun _ h => h, fun _ h => h.elim, fun _ _ h => h, ?_, trivial⟩
    simpa [dsV] using h
  rcases h.2 with ⟨h1, h0⟩ | ⟨g, off, cap, cur, rfl, h2, h3, h4, h5, h6, h7⟩ | ⟨⟨a0, h1⟩, h0⟩
  · exact hnone h0 none h1
  · have hg := (Array.getElem?_eq_some_iff.1 h3).1
    have hsz : (flatK encD 2 l.toArray).size = l.length * 2 := by simp
    have hH : HoldsK encD 2 w g off l.toArray := by
      intro j hj
      rw [hsz] at hj
      have hj2 : j < (flatK encD 2 l.toArray).size := by rw [hsz]; exact hj
      refine ⟨?_, by simp [World.frozen?, h3]⟩
      have h8 : ((cur.toList.drop off).take (l.length * 2))[j]? = (dsV l)[j]? := by rw [h7]
      rw [List.getElem?_take_of_lt (by omega), List.getElem?_drop] at h8
      simp only [World.cell?, h3]
      simp only [Option.isSome_none, Bool.false_eq_true, if_false]
      rw [← Array.getElem?_toList, h8, ← flat_dsV, Array.getElem?_toList, Array.getElem?_eq_getElem hj2, getElem!_pos _ j hj2]
      rfl
    have c := AnyQ.slices_SortFunc_total Tryz.sortDarts 2 (fun w => Tryz.isAgg100 w) (fun w => Tryz.sizeOf100 w) encD (fun _ => rfl) (fun x u hu => by
      simp only [encD, List.mem_cons, List.not_mem_nil, or_false] at hu
      rcases hu with rfl | rfl <;> rfl) cmpD swo_D 120 #[] g off cap l.toArray w (fun args w => FnTy.c (P := Tryz.prog) (f := 120) args w) (fun m os dk _ x y => (dartOrder_ok x y _).mono fun e' w' ⟨u, L', ⟨hu, hL⟩, he, S', hm, _⟩ => by
        subst hu
        exact ⟨he, mod_grow hm⟩) hH hg (by simpa using hlen) (fun x y hx hy => by
        have a : ¬ _ := fun h => of_decide_eq_false hx (cmpD_lt.2 h)
        have b : ¬ _ := fun h => of_decide_eq_false hy (cmpD_lt.2 h)
        exact Prod.ext (by omega) (by omega))
    change Calls Tryz.prog 119 _ _ _ at c
    have hms : (l.toArray.toList.mergeSort fun x y => !(ltOf cmpD) y x) = l.mergeSort leD := by
      congr 1
      funext x y
      exact leD_eq x y
    rw [hms] at c
    refine Calls.mono c ?_
    rintro e' w' ⟨rfl, n, os, rfl⟩
    have hlen' : (l.mergeSort leD).length = l.length := List.length_mergeSort _
    have hfl : flatK encD 2 (l.mergeSort leD).toArray = (dsV (l.mergeSort leD)).toArray := by
      rw [← flat_dsV, Array.toArray_toList]
    refine ⟨_, _, ⟨rfl, rfl⟩, rfl, S, ⟨rfl, rfl, rfl, Nat.le_add_right _ _, by simp [sortWorldK, putRowK], fun k hk hS => ?_, fun k h => .inl h⟩, S, fun _ => False, fun _ h => h, fun _ h => h.elim, fun _ _ h => h, ?_, trivial⟩
    · rw [sortWorldK, heap_grow_old _ _ (by simpa [putRowK] using hk)]
      have : g ≠ k := fun e => hS (by rw [← e]; exact h2)
      simp [putRowK, putRow, mapBlock, Sort.ahead, Array.getElem?_modify, this]
    · refine ⟨by rw [dsV_length, hlen'], .inr (.inl ⟨g, off, cap, putCells id off (dsV (l.mergeSort leD)).toArray cur, rfl, h2, ?_, h4, h5, by simp [putCells, h6], ?_⟩)⟩
      · rw [sortWorldK, heap_grow_old _ _ (by simpa [putRowK] using hg), putRowK, hfl]
        simp [putRow, mapBlock, Sort.ahead, Array.getElem?_modify, h3, onCells]
      · have := putCells_id cur off (dsV (l.mergeSort leD)) (by rw [dsV_length, hlen', h6]; omega)
        rw [dsV_length, hlen'] at this
        exact this
  · exact hnone h0 (some a0) h1
end Go.Proofs.YtpajjnkmaebhcabGreat
end
section
set_option linter.unusedVariables false
namespace Go.Proofs
open Go.Shelf
def Tryz.sortEdges_ren : Go.Shelf.Ren := ⟨fun | 6 => 77 | 15 => 81 | 14 => 98 | 28 => 113 | 29 => 114 | 20 => 121 | 21 => 122 | 22 => 123 | 23 => 124 | 24 => 125 | 25 => 126 | 26 => 127 | 27 => 128 | 46 => 148 | 47 => 142 | 48 => 143 | 49 => 149 | 50 => 150 | 57 => 164 | n => n, fun | 22 => 22 | 24 => 37 | 25 => 107 | 3 => 3 | 39 => 111 | 0 => 0 | 53 => 156 | 55 => 158 | 4 => 4 | 46 => 149 | 45 => 148 | 50 => 78 | 5 => 5 | 9 => 9 | 66 => 187 | 70 => 191 | 76 => 197 | 77 => 93 | n => n, fun | n => n⟩
theorem Tryz.sortEdges : Go.Proofs.SlLaysF0.n6 Tryz.prog Tryz.sortEdges_ren := {
  mixed := by kernel_rfl
  f6 := ⟨Tryz.f77.name, by decide, Tryz.func77.trans (congrArg some (by kernel_rfl))⟩
  f14 := ⟨Tryz.f98.name, by decide, Tryz.func98.trans (congrArg some (by kernel_rfl))⟩
  f15 := Tryz.func81.trans (congrArg some (by kernel_rfl))
  f20 := ⟨Tryz.f121.name, by decide, Tryz.func121.trans (congrArg some (by kernel_rfl))⟩
  f21 := ⟨Tryz.f122.name, by decide, Tryz.func122.trans (congrArg some (by kernel_rfl))⟩
  f22 := ⟨Tryz.f123.name, by decide, Tryz.func123.trans (congrArg some (by kernel_rfl))⟩
  f23 := ⟨Tryz.f124.name, by decide, Tryz.func124.trans (congrArg some (by kernel_rfl))⟩
  f24 := ⟨Tryz.f125.name, by decide, Tryz.func125.trans (congrArg some (by kernel_rfl))⟩
  f25 := ⟨Tryz.f126.name, by decide, Tryz.func126.trans (congrArg some (by kernel_rfl))⟩
  f26 := ⟨Tryz.f127.name, by decide, Tryz.func127.trans (congrArg some (by kernel_rfl))⟩
  f27 := ⟨Tryz.f128.name, by decide, Tryz.func128.trans (congrArg some (by kernel_rfl))⟩
  f28 := Tryz.func113.trans (congrArg some (by kernel_rfl))
  f29 := Tryz.func114.trans (congrArg some (by kernel_rfl))
  f46 := ⟨Tryz.f148.name, by decide, Tryz.func148.trans (congrArg some (by kernel_rfl))⟩
  f47 := Tryz.func142.trans (congrArg some (by kernel_rfl))
  f48 := Tryz.func143.trans (congrArg some (by kernel_rfl))
  f49 := ⟨Tryz.f149.name, by decide, Tryz.func149.trans (congrArg some (by kernel_rfl))⟩
  f50 := ⟨Tryz.f150.name, by decide, Tryz.func150.trans (congrArg some (by kernel_rfl))⟩
  f57 := ⟨Tryz.f164.name, by decide, Tryz.func164.trans (congrArg some (by kernel_rfl))⟩
  t0 := Tryz.underlying0
  a0 := Tryz.isAgg0
  z0 := Tryz.sizeOf0
  v0 := Tryz.zeroValue0
  t3 := Tryz.underlying3
  a3 := Tryz.isAgg3
  z3 := Tryz.sizeOf3
  v3 := Tryz.zeroValue3
  t4 := Tryz.underlying4
  a4 := Tryz.isAgg4
  z4 := Tryz.sizeOf4
  v4 := Tryz.zeroValue4
  t5 := Tryz.underlying5
  a5 := Tryz.isAgg5
  z5 := Tryz.sizeOf5
  v5 := Tryz.zeroValue5
  t9 := Tryz.underlying9
  a9 := Tryz.isAgg9
  z9 := Tryz.sizeOf9
  v9 := Tryz.zeroValue9
  t22 := Tryz.underlying22
  a22 := Tryz.isAgg22
  z22 := Tryz.sizeOf22
  v22 := Tryz.zeroValue22
  t25 := Tryz.underlying107
  a25 := Tryz.isAgg107
  z25 := Tryz.sizeOf107
  v25 := Tryz.zeroValue107
  t39 := Tryz.underlying111
  a39 := Tryz.isAgg111
  z39 := Tryz.sizeOf111
  v39 := Tryz.zeroValue111
  t45 := Tryz.underlying148
  a45 := Tryz.isAgg148
  z45 := Tryz.sizeOf148
  v45 := Tryz.zeroValue148
  t46 := Tryz.underlying149
  a46 := Tryz.isAgg149
  z46 := Tryz.sizeOf149
  v46 := Tryz.zeroValue149
  t50 := Tryz.underlying78
  a50 := Tryz.isAgg78
  z50 := Tryz.sizeOf78
  v50 := Tryz.zeroValue78
  t53 := Tryz.underlying156
  a53 := Tryz.isAgg156
  z53 := Tryz.sizeOf156
  v53 := Tryz.zeroValue156
  t55 := Tryz.underlying158
  a55 := Tryz.isAgg158
  z55 := Tryz.sizeOf158
  v55 := Tryz.zeroValue158
  t66 := Tryz.underlying187
  a66 := Tryz.isAgg187
  z66 := Tryz.sizeOf187
  v66 := Tryz.zeroValue187
  t70 := Tryz.underlying191
  a70 := Tryz.isAgg191
  z70 := Tryz.sizeOf191
  v70 := Tryz.zeroValue191
  t76 := Tryz.underlying197
  a76 := Tryz.isAgg197
  z76 := Tryz.sizeOf197
  v76 := Tryz.zeroValue197
  t77 := Tryz.underlying93
  a77 := Tryz.isAgg93
  z77 := Tryz.sizeOf93
  v77 := Tryz.zeroValue93 }
end Go.Proofs
namespace Go.Proofs.YtpajjnkmaebhcabGreat
open Go Go.RowKit Go.Sl Fil Go.Sort Go.Shelf
theorem flat_esV (l : List E) : (flatK eV 3 l.toArray).toList = esV l := by
  apply List.ext_getElem?
  intro j
  by_cases hj : j < l.length * 3
  · obtain ⟨d, hd⟩ : ∃ d, l[j / 3]? = some d := ⟨_, List.getElem?_eq_getElem (by omega)⟩
    have g1 := esV_at hd
    have hlt : j / 3 < l.length := by omega
    have hdd : l[j / 3] = d := (List.getElem?_eq_some_iff.1 hd).2
    have e1 : (flatK eV 3 l.toArray).toList[j]? = some ((eV d)[j % 3]!) := by
      rw [Array.getElem?_toList]
      simp [flatK, hj, hlt, hdd]
    have e2 : (esV l)[j]? = (eV d)[j % 3]? := by
      rw [← g1, List.getElem?_take_of_lt (by omega), List.getElem?_drop]
      congr 1; omega
    rw [e1, e2]
    have : j % 3 = 0 ∨ j % 3 = 1 ∨ j % 3 = 2 := by omega
    rcases this with h | h | h <;> rw [h] <;> rfl
  · rw [List.getElem?_eq_none (by simp; omega), List.getElem?_eq_none (by rw [esV_length]; omega)]
theorem cmpK_lt3 {a b : Int} : cmpK a b < 0 ↔ a < b := by
  unfold cmpK
  (repeat' split) <;> omega
theorem cmpK_eq3 {a b : Int} : cmpK a b = 0 ↔ a = b := by
  unfold cmpK
  (repeat' split) <;> omega
theorem orderE_lt {a b : E} : orderK a b < 0 ↔ a.1 < b.1 ∨ a.1 = b.1 ∧ a.2.1 < b.2.1 := by
  unfold orderK
  split
  · rename_i h
    have := cmpK_eq3.1 h
    rw [cmpK_lt3]; omega
  · rename_i h
    have : ¬ a.1 = b.1 := fun e => h (cmpK_eq3.2 e)
    rw [cmpK_lt3]; omega
theorem swo_E : SWO (ltOf orderK) where
  irrefl x := decide_eq_false fun h => by have := orderE_lt.1 h; omega
  trans x y z h1 h2 := by
    have a := orderE_lt.1 (of_decide_eq_true h1)
    have b := orderE_lt.1 (of_decide_eq_true h2)
    exact decide_eq_true (orderE_lt.2 (by omega))
  ntrans x y z h1 h2 := by
    have a : ¬ _ := fun h => of_decide_eq_false h1 (orderE_lt.2 h)
    have b : ¬ _ := fun h => of_decide_eq_false h2 (orderE_lt.2 h)
    exact decide_eq_false fun h => by have := orderE_lt.1 h; omega
theorem edgeSort_row {w : World} {v : Value} {e : TypeId} {l : List E} {S : FS} (h : (rowHP v e 3 l.length (esV l)).sat S w) (hlen : l.length < 4611686018427387904) :
    Calls Tryz.prog 77 #[v, .func (.func 78) #[] #[]] w (Post w S fun r L' => r = .tuple #[] ∧ ∃ l' : List E, l'.Perm l ∧ l'.Pairwise (fun a b => ¬ orderK b a < 0) ∧ L' = [rowHP v e 3 l.length (esV l')]) := by
  have hnone : l.length = 0 → ∀ p, v = .slice p 0 0 → Calls Tryz.prog 77 #[v, .func (.func 78) #[] #[]] w (Post w S fun r L' => r = .tuple #[] ∧ ∃ l' : List E, l'.Perm l ∧ l'.Pairwise (fun a b => ¬ orderK b a < 0) ∧ L' = [rowHP v e 3 l.length (esV l')]) := fun h0 p hp => by
    have hl : l = [] := List.eq_nil_of_length_eq_zero h0
    subst hl
    subst hp
    have c := AnyF.slices_SortFunc_none Tryz.sortEdges p 0 (.func (.func 78) #[] #[]) w
    change Calls Tryz.prog 77 _ _ _ at c
    refine Calls.mono c ?_
    rintro e' w' ⟨rfl, hw⟩
    subst hw
    refine ⟨_, _, ⟨rfl, [], .refl _, .nil, rfl⟩, rfl, S, Mod.refl _ _, S, fun _ => False, fun _ h => h, fun _ h => h.elim, fun _ _ h => h, ?_, trivial⟩
    simpa [esV] using h
  rcases h.2 with ⟨h1, h0⟩ | ⟨g, off, cap, cur, rfl, h2, h3, h4, h5, h6, h7⟩ | ⟨⟨a0, h1⟩, h0⟩
  · exact hnone h0 none h1
  · have hg := (Array.getElem?_eq_some_iff.1 h3).1
    have hsz : (flatK eV 3 l.toArray).size = l.length * 3 := by simp
    have hH : HoldsK eV 3 w g off l.toArray := by
      intro j hj
      rw [hsz] at hj
      have hj2 : j < (flatK eV 3 l.toArray).size := by rw [hsz]; exact hj
      refine ⟨?_, by simp [World.frozen?, h3]⟩
      have h8 : ((cur.toList.drop off).take (l.length * 3))[j]? = (esV l)[j]? := by rw [h7]
      rw [List.getElem?_take_of_lt (by omega), List.getElem?_drop] at h8
      simp only [World.cell?, h3]
      simp only [Option.isSome_none, Bool.false_eq_true, if_false]
      rw [← Array.getElem?_toList, h8, ← flat_esV, Array.getElem?_toList, Array.getElem?_eq_getElem hj2, getElem!_pos _ j hj2]
      rfl
    have c := AnyQ.slices_SortFunc Tryz.sortEdges 3 (fun w => Tryz.isAgg37 w) (fun w => Tryz.sizeOf37 w) eV (fun _ => rfl) (fun x u hu => by
      simp only [eV, List.mem_cons, List.not_mem_nil, or_false] at hu
      rcases hu with rfl | rfl | rfl <;> rfl) orderK swo_E 78 #[] g off cap l.toArray w (fun args w => FnTy.c (P := Tryz.prog) (f := 78) args w) (fun m os dk _ x y => (order_ok x y _).mono fun e' w' ⟨u, L', ⟨hu, hL⟩, he, S', hm, _⟩ => by
        subst hu
        exact ⟨he, mod_grow hm⟩) hH hg (by simpa using hlen)
    change Calls Tryz.prog 77 _ _ _ at c
    refine Calls.mono c ?_
    rintro e' w' ⟨rfl, d', n, os, ⟨hp1, _, hp3⟩, hso, rfl⟩
    have hds : d'.size = l.length := by simpa using hp1
    have hperm : d'.toList.Perm l := by
      have e1 : d'.extract 0 l.toArray.size = d' := by rw [← hp1]; exact Array.extract_size
      rw [e1, Array.extract_size] at hp3
      simpa using hp3
    have hlen' : d'.toList.length = l.length := hperm.length_eq
    have hpw : d'.toList.Pairwise (fun a b => ¬ orderK b a < 0) := by
      rw [List.pairwise_iff_getElem]
      intro i j hi hj hij hlt
      have h9 := hso i j (Nat.zero_le _) hij (by simp at hj ⊢; omega)
      rw [getElem!_pos d' j (by simpa using hj), getElem!_pos d' i (by simpa using hi)] at h9
      exact of_decide_eq_false h9 (by simpa using hlt)
    have hfl : flatK eV 3 d' = (esV d'.toList).toArray := by
      rw [← flat_esV, Array.toArray_toList, Array.toArray_toList]
    generalize hd' : d'.toList = m at *
    refine ⟨_, _, ⟨rfl, m, hperm, hpw, rfl⟩, rfl, S, ⟨rfl, rfl, rfl, Nat.le_add_right _ _, by simp [sortWorldK, putRowK], fun k hk hS => ?_, fun k h => .inl h⟩, S, fun _ => False, fun _ h => h, fun _ h => h.elim, fun _ _ h => h, ?_, trivial⟩
    · rw [sortWorldK, heap_grow_old _ _ (by simpa [putRowK] using hk)]
      have : g ≠ k := fun e => hS (by rw [← e]; exact h2)
      simp [putRowK, putRow, mapBlock, Sort.ahead, Array.getElem?_modify, this]
    · refine ⟨by rw [esV_length, hlen'], .inr (.inl ⟨g, off, cap, putCells id off (esV m).toArray cur, rfl, h2, ?_, h4, h5, by simp [putCells, h6], ?_⟩)⟩
      · rw [sortWorldK, heap_grow_old _ _ (by simpa [putRowK] using hg), putRowK, hfl]
        simp [putRow, mapBlock, Sort.ahead, Array.getElem?_modify, h3, onCells]
      · have := putCells_id cur off (esV m) (by rw [esV_length, hlen', h6]; omega)
        rw [esV_length, hlen'] at this
        exact this
  · exact hnone h0 (some a0) h1
end Go.Proofs.YtpajjnkmaebhcabGreat
end
section
set_option linter.unusedVariables false
namespace Go.Sl
open Go Go.RowKit
section
variable {P : Program} {w0 : World} {S0 : FS} {n : Nat} {F : List (Nat × Value)} {L Lk : List HP} {ops : Array Oper} {Q : Exit → Act → World → Prop} {plan : List PI}
theorem RP.weaken {G : List (Nat × Value)} {M : List HP} (is : List Nat) (hL : pick L is = some M) (hF : covers F G) (h : RP P w0 S0 n ops Q Lk plan G M) : RP P w0 S0 n ops Q Lk plan F L := Reach.weaken is hL hF h
/-- orders that come to one state -/
theorem p_join {X : Type} (rest : List PI) (FX : X → List (Nat × Value)) (LX : X → List HP) (h : (∀ x, RP P w0 S0 n ops Q Lk rest (FX x) (LX x)) → RP P w0 S0 n ops Q Lk plan F L) (hk : ∀ x, RP P w0 S0 n ops Q Lk rest (FX x) (LX x)) : RP P w0 S0 n ops Q Lk plan F L := h hk
/-- ways that come to one state -/
theorem c_join {X : Type} {c : Code} {K : Act → World → Prop} (FX : X → List (Nat × Value)) (LX : X → List HP) (h : ∀ K : Act → World → Prop, (∀ x, Reach w0 S0 n (FX x) (LX x) K) → Reach w0 S0 n F L (c.wp P (Exit.then K Q))) (hk : ∀ x, Reach w0 S0 n (FX x) (LX x) K) : Reach w0 S0 n F L (c.wp P (Exit.then K Q)) := h K hk
theorem j_end {X : Type} {K : Act → World → Prop} {FX : X → List (Nat × Value)} {LX : X → List HP} (hk : ∀ x, Reach w0 S0 n (FX x) (LX x) K) (x : X) (is : List Nat) (hL : pick L is = some (LX x)) (hF : covers F (FX x)) : Reach w0 S0 n F L K := Reach.weaken is hL hF (hk x)
theorem pj_end {X : Type} {FX : X → List (Nat × Value)} {LX : X → List HP} (hk : ∀ x, RP P w0 S0 n ops Q Lk plan (FX x) (LX x)) (x : X) (is : List Nat) (hL : pick L is = some (LX x)) (hF : covers F (FX x)) : RP P w0 S0 n ops Q Lk plan F L := Reach.weaken is hL hF (hk x)
theorem p_beginB [T : PO Q] {id : Nat} {l : List Oper} {A B : HP} (plan : List PI) (hm : (P.follows .mixedOrders && Region.noSelect l.toArray && planOk l.toArray (Array.replicate l.toArray.size false) plan && (planLen plan == l.toArray.size)) = true)
    (h : RP P w0 S0 n l.toArray Q L plan F (A :: B :: L)) : Reach w0 S0 n F (A :: B :: L) ((Code.region id l.toArray true).wp P Q) := p_begin plan L hm h
end
end Go.Sl
end
section
set_option linter.unusedVariables false
set_option linter.unusedSimpArgs false
namespace Go.Sl
open Go Go.RowKit
section
variable {P : Program} {w0 : World} {S0 : FS} {n : Nat} {F : List (Nat × Value)} {L Lk : List HP} {ops : Array Oper} {Q : Exit → Act → World → Prop}
/-- the end of the first phase: what the second one asks -/
def cutK (P : Program) (ops : Array Oper) (Q : Exit → Act → World → Prop) (plan : List PI) : Exit → Act → World → Prop
  | .normal, a, w => ∃ S : World → Prop, S w ∧ PW P ops Q S plan a w
  | e, a, w => Q e a w
instance {plan : List PI} [T : PO Q] : PO (cutK P ops Q plan) := ⟨fun c a d v w h => T.ok c a d v w h⟩
end
end Go.Sl
end
section
namespace Go.Proofs.YtpajjnkmaebhcabGreat
open Go.RowKit Go.Sl Fil
set_option maxRecDepth 100000
set_option maxHeartbeats 8000000
set_option linter.unusedVariables false
set_option linter.unusedSimpArgs false
attribute [local irreducible] Code.wp wpList bodyPost wpQuiet Exit.then Exit.inBlock Post wpAnyH wpOp
theorem levOf_ok (n : Int) (v : Value) (es : List E) (w : World) (hs : Shp v es.length) (hr : RO w No v (esV es)) (hR : RightG n es) :
    Calls Tryz.prog 93 #[.agg #[.int .i64 n, v]] w (Post w No fun r L' => ∃ (out : List Nat) (lab : Nat → Nat) (vo : Value), r = .tuple #[vo, .int .i64 0] ∧ L' = [rowHP vo 3 1 n.toNat (nV out)] ∧ out.length = n.toNat ∧ Lev n.toNat (nearS (tn es)) (fun v => out.getD v 0) lab) := by
  have hR0 := right_iff.2 hR
  have hm : es.length < 4611686018427387904 := by have := hR.many; omega
  have hlo := hR.lo
  have hhi := hR.hi
  have hA := hR.good.adjS
  refine enter0 (vs := [_]) Tryz.func93 rfl Tryz.ntmps93 rfl ?_
  repeat' first
    | refine k_then ?_ | refine c_seq ?_ | refine c_region ?_ | refine s_nil ?_ | refine s_assign (by exact rfl) (by exact rfl) ?_ | refine s_ldk_box (by exact rfl) (by exact rfl) (by exact .head _) (by exact rfl) (by exact rfl) ?_ | refine o_box (by exact rfl) (by exact rfl) (fun b => ?_) | fail
  refine s_call (by exact rfl) (by exact rfl) (fun w h => Right_ok n v es w hs (ro_old h hr) hm) ?_
  repeat' first
    | refine k_then ?_ | refine c_seq ?_ | refine c_region ?_ | refine s_nil ?_ | refine s_neq (by exact rfl) (by exact rfl) (by exact rfl) ?_ | refine s_ldk_box (by exact rfl) (by exact rfl) (by exact .head _) (by exact rfl) (by exact rfl) ?_ | refine c_skip ?_ | (refine c_cond_p (by exact rfl) (fun h => ?_) (fun h => ?_) <;> try (exfalso; omega)) | fail
  refine o_call (by exact rfl) (by exact rfl) (fun w h => Near_ok n v es w hs (ro_old h hr) hR) ?_
  rintro vn _ ⟨hs0, hl0, rfl⟩
  refine know_row (v := vn) (.head _) fun hvn _ => ?_
  repeat' first
    | refine k_then ?_ | refine c_seq ?_ | refine c_region ?_ | refine s_nil ?_ | refine s_assign (by exact rfl) (by exact rfl) ?_ | refine s_fa (by exact rfl) (by exact rfl) ?_ | refine s_ld_box (by exact rfl) (by exact rfl) (by exact .tail _ (.tail _ (.head _))) (by exact rfl) ?_ | fail
  refine o_make (by exact rfl) (by exact rfl) (by exact rfl) (by omega) (by omega) fun vo hvo => ?_
  repeat' first
    | refine k_then ?_ | refine c_seq ?_ | refine c_region ?_ | refine s_nil ?_ | refine s_assign (by exact rfl) (by exact rfl) ?_ | refine s_fa (by exact rfl) (by exact rfl) ?_ | refine s_ld_box (by exact rfl) (by exact rfl) (by exact .tail _ (.tail _ (.tail _ (.head _)))) (by exact rfl) ?_ | fail
  refine o_make (by exact rfl) (by exact rfl) (by exact rfl) (by omega) (by omega) fun vm hvm => ?_
  rw [made1 (z := .int .i64 0) rfl, made1 (z := .bool false) rfl]
  repeat' first
    | refine k_then ?_ | refine c_seq ?_ | refine c_region ?_ | refine s_nil ?_ | refine s_move (by exact rfl) (by exact rfl) ?_ | refine s_assign (by exact rfl) (by exact rfl) ?_ | refine s_fa (by exact rfl) (by exact rfl) ?_ | refine s_ld_box (by exact rfl) (by exact rfl) (by exact .tail _ (.tail _ (.tail _ (.tail _ (.head _))))) (by exact rfl) ?_ | refine c_block ?_ | fail
  have hAl : ∀ x, (nearS (tn es) x).length ≤ 4194304 := fun x => by
    have h1 := nb_length (tn es) x
    have h2 := hR.many
    simp only [nearS, List.length_mergeSort]
    simp only [tn, List.length_map] at h1
    simp only [tn]
    omega
  generalize hAd : nearS (tn es) = A at *
  generalize hN : n.toNat = N at *
  have hnN : n = (N : Int) := by omega
  subst hnN
  refine c_loop (fun x : Nat × List Bool × List Nat × (Nat → Nat) => x.1 ≤ N ∧ Bfs N A x.1 x.2.1 x.2.2.1 x.2.2.2 [] ∧ ∀ u, x.2.2.1.getD u 0 + unmet x.2.1 ≤ N) (fun x => [(4, vn), (5, vo), (6, vm), (24, .int .i64 (N : Int)), (25, .int .i64 (x.1 : Int))])
    (fun x => [rowHP vm 4 1 N (bV x.2.1), rowHP vo 3 1 N (nV x.2.2.1), rowHP vn 28 1 N hs0, starHP (kids rowN hs0 ((List.range N).map A))]) (fun x => N - x.1) (0, List.replicate N false, List.replicate N 0, fun _ => 0) [0, 0, 0, 0] ⟨Nat.zero_le _, Bfs.init N A, ?_⟩ ?_ ⟨rfl, rfl, rfl, rfl, rfl, trivial⟩ ?_
  · intro u
    have h1 := unmet_le (List.replicate N false)
    simp only [List.length_replicate] at h1
    simp only [List.getD_eq_getElem?_getD, List.getElem?_replicate]
    split <;> simp <;> omega
  · simp only [bV, nV, List.map_replicate]
    rfl
  rintro ⟨i, met, out, lab⟩ ⟨hi, hB, hcap⟩
  dsimp only at hi hB hcap ⊢
  by_cases hlt : i < N
  · have hmi := bV_get (l := met) (k := i) (by rw [hB.lm]; exact hlt)
    cases hmet : met.getD i false
    · rw [hmet] at hmi
      repeat' first
        | refine k_then ?_ | refine c_seq ?_ | refine c_region ?_ | refine s_nil ?_ | refine s_move (by exact rfl) (by exact rfl) ?_ | refine s_assign (by exact rfl) (by exact rfl) ?_ | refine s_lss (by exact rfl) (by exact rfl) (by exact rfl) ?_ | refine s_idx (by exact rfl) (by exact rfl) (by exact rfl) (by assumption) (by first | assumption | omega) ?_ | refine s_ld_row (by exact rfl) (by exact rfl) (by exact .head _) (by assumption) ?_ | refine c_block ?_ | refine c_skip ?_ | (refine c_cond_p (by exact rfl) (fun h => ?_) (fun h => ?_) <;> try (exfalso; omega)) | refine c_cond_f (by exact rfl) ?_ | fail
      refine o_st_row (i := 0) (by exact rfl) (by exact rfl) (by exact rfl) rfl (by omega) ?_
      repeat' first
        | refine k_then ?_ | refine c_seq ?_ | refine c_region ?_ | refine s_nil ?_ | refine s_move (by exact rfl) (by exact rfl) ?_ | fail
      rw [bV_set]
      refine o_mk [_] (by exact rfl) (by exact rfl) rfl ?_ ?_ (by simp) fun vl0 hvl0 => ?_
      · simp [Value.cells]
      · simp
      repeat' first
        | refine k_then ?_ | refine s_nil ?_ | refine s_assign (by exact rfl) (by exact rfl) ?_ | refine c_block ?_ | fail
      have hBs := hB.start hlt hmet
      have hum := unmet_set (by rw [hB.lm]; exact hlt) hmet
      refine c_loop (fun x : Value × List Nat × List Bool × List Nat × (Nat → Nat) => Bfs N A i x.2.2.1 x.2.2.2.1 x.2.2.2.2 x.2.1 ∧ (∀ u, x.2.2.2.1.getD u 0 + unmet x.2.2.1 ≤ N) ∧ 2 * unmet x.2.2.1 + x.2.1.length ≤ 2 * N + 2 ∧ x.2.2.1.getD i false = true)
        (fun x => [(4, vn), (5, vo), (6, vm), (7, .int .i64 (i : Int)), (8, x.1), (24, .int .i64 (N : Int)), (25, .int .i64 (i : Int))])
        (fun x => [rowHP x.1 3 1 x.2.1.length (nV x.2.1), rowHP vm 4 1 N (bV x.2.2.1), rowHP vo 3 1 N (nV x.2.2.2.1), rowHP vn 28 1 N hs0, starHP (kids rowN hs0 ((List.range N).map A))])
        (fun x => 2 * unmet x.2.2.1 + x.2.1.length) (vl0, [i], met.set i true, out, fun x => if x = i then i else lab x) [0, 0, 0, 0, 0] ⟨hBs, ?_, ?_, hBs.line_met i (by simp)⟩ (by exact rfl) ⟨rfl, rfl, rfl, rfl, rfl, rfl, rfl, trivial⟩ ?_
      · intro u
        have := hcap u
        dsimp only; omega
      · have := hcap 0
        dsimp only [List.length_singleton]; omega
      clear hBs hum hmi hmet hB hcap hvl0
      clear vl0 out lab met
      rintro ⟨vl, line, met, out, lab⟩ ⟨hB, hcap, hM, hfm⟩
      dsimp only at hB hcap hM hfm ⊢
      refine know_row (v := vl) (.head _) fun hvl _ => ?_
      cases line with
      | nil =>
        have hlen : ([] : List Nat).length = 0 := rfl
        repeat' first
          | refine k_then ?_ | refine c_seq ?_ | refine c_region ?_ | refine s_nil ?_ | refine s_move (by exact rfl) (by exact rfl) ?_ | refine s_gtr (by exact rfl) (by exact rfl) (by exact rfl) ?_ | refine s_add (by exact rfl) (by exact rfl) (by exact rfl) (by omega) ?_ | refine s_len (by exact rfl) (by exact rfl) (by assumption) ?_ | refine c_exit ?_ | refine k_then_exit ?_ | refine k_blk ?_ | refine k_blk_eq ?_ | (refine c_cond_p (by exact rfl) (fun h => ?_) (fun h => ?_) <;> try (exfalso; omega)) | fail
        refine c_round (i + 1, met, out, lab) [1, 1, 1, 1] (by exact rfl) (by exact ⟨rfl, rfl, rfl, rfl, rfl, trivial⟩) ⟨by omega, hB.next hfm, hcap⟩ (by dsimp only; omega)
      | cons x rest =>
        have hlen : (x :: rest).length = rest.length + 1 := rfl
        have hx := hB.line_lt x (by simp)
        have hAx := hAl x
        have hx0 : (nV (x :: rest))[(0 : Int).toNat * 1]? = some (.int .i64 (x : Int)) := rfl
        obtain ⟨hd, hhd⟩ : ∃ hd, hs0[x * 1]? = some hd := ⟨_, List.getElem?_eq_getElem (by omega)⟩
        have hK : rowHP hd 3 1 (A x).length (nV (A x)) ∈ kids rowN hs0 ((List.range N).map A) := kids_mem (f := rowN) (k := x) (by simpa using hhd) (by simp [hx])
        refine know_kid (Ks := kids rowN hs0 ((List.range N).map A)) (.tail _ (.tail _ (.tail _ (.tail _ (.head _))))) hK fun hhs _ => ?_
        repeat' first
          | refine k_then ?_ | refine c_seq ?_ | refine c_region ?_ | refine s_nil ?_ | refine s_move (by exact rfl) (by exact rfl) ?_ | refine s_assign (by exact rfl) (by exact rfl) ?_ | refine s_gtr (by exact rfl) (by exact rfl) (by exact rfl) ?_ | refine s_len (by exact rfl) (by exact rfl) (by assumption) ?_ | refine s_idx (by exact rfl) (by exact rfl) (by exact rfl) (by assumption) (by first | assumption | omega) ?_ | refine s_idxi (by exact rfl) (by exact rfl) (by exact rfl) (by assumption) (by first | assumption | omega) ?_ | refine s_ld_row (by exact rfl) (by exact rfl) (by first | exact .head _ | exact .tail _ (.tail _ (.tail _ (.head _)))) (by assumption) ?_ | refine c_block ?_ | refine c_skip ?_ | (refine c_cond_p (by exact rfl) (fun h => ?_) (fun h => ?_) <;> try (exfalso; omega)) | fail
        refine c_loop (fun y : Nat × Value × List Nat × List Bool × List Nat × (Nat → Nat) => y.1 ≤ (A x).length ∧ Bfs N A i y.2.2.2.1 y.2.2.2.2.1 y.2.2.2.2.2 (x :: y.2.2.1) ∧ Seen A i y.2.2.2.1 y.2.2.2.2.1 y.2.2.2.2.2 x y.1 ∧ (∀ u, y.2.2.2.2.1.getD u 0 + unmet y.2.2.2.1 ≤ N) ∧ 2 * unmet y.2.2.2.1 + (x :: y.2.2.1).length ≤ 2 * unmet met + (x :: rest).length ∧ y.2.2.2.1.getD i false = true)
          (fun y => [(4, vn), (5, vo), (6, vm), (7, .int .i64 (i : Int)), (8, y.2.1), (9, .int .i64 (x : Int)), (24, .int .i64 (N : Int)), (25, .int .i64 (i : Int)), (48, hd), (49, .int .i64 ((A x).length : Int)), (50, .int .i64 (y.1 : Int))])
          (fun y => [rowHP y.2.1 3 1 (x :: y.2.2.1).length (nV (x :: y.2.2.1)), rowHP vm 4 1 N (bV y.2.2.2.1), rowHP vo 3 1 N (nV y.2.2.2.2.1), rowHP vn 28 1 N hs0, starHP (kids rowN hs0 ((List.range N).map A))])
          (fun y => (A x).length - y.1) (0, vl, rest, met, out, lab) [0, 0, 0, 0, 0] ⟨Nat.zero_le _, hB, fun u hu => by simp at hu, hcap, Nat.le_refl _, hfm⟩ (by exact rfl) ⟨rfl, rfl, rfl, rfl, rfl, rfl, rfl, rfl, rfl, rfl, rfl, trivial⟩ ?_
        clear hB hcap hx0 hvl hfm
        rintro ⟨j, vl, rest2, met2, out2, lab2⟩ ⟨hj, hB, hS, hcap, hM2, hfm⟩
        dsimp only at hj hB hS hcap hM2 hfm ⊢
        refine know_row (v := vl) (.head _) fun hvl _ => ?_
        by_cases hjl : j < (A x).length
        · obtain ⟨u, hu⟩ : ∃ u, (A x)[j]? = some u := ⟨_, List.getElem?_eq_getElem hjl⟩
          have hun := hA.lt x hx u (List.mem_of_getElem? hu)
          have hju : (nV (A x))[j * 1]? = some (.int .i64 (u : Int)) := by simp [nV, hu]
          have hmu := bV_get (l := met2) (k := u) (by rw [hB.lm]; exact hun)
          cases hmet : met2.getD u false
          · rw [hmet] at hmu
            have hox := nV_get (l := out2) (k := x) (by rw [hB.lo]; exact hx)
            have hcx := hcap x
            have hum := unmet_set (by rw [hB.lm]; exact hun) hmet
            obtain ⟨hB2, hS2⟩ := hB.new hA hS hu hmet
            repeat' first
              | refine k_then ?_ | refine c_seq ?_ | refine c_region ?_ | refine s_nil ?_ | refine s_move (by exact rfl) (by exact rfl) ?_ | refine s_assign (by exact rfl) (by exact rfl) ?_ | refine s_lss (by exact rfl) (by exact rfl) (by exact rfl) ?_ | refine s_add (by exact rfl) (by exact rfl) (by exact rfl) (by omega) ?_ | refine s_not (by exact rfl) (by exact rfl) ?_ | refine s_idx (by exact rfl) (by exact rfl) (by exact rfl) (by assumption) (by first | assumption | omega) ?_ | refine s_ld_row (by exact rfl) (by exact rfl) (by first | exact .tail _ (.head _) | exact .tail _ (.tail _ (.head _))) (by assumption) ?_ | refine s_ld_kid (by exact rfl) (by exact rfl) (by assumption) (by exact .tail _ (.tail _ (.tail _ (.tail _ (.head _))))) (by assumption) ?_ | refine c_block ?_ | refine c_skip ?_ | (refine c_cond_p (by exact rfl) (fun h => ?_) (fun h => ?_) <;> try (exfalso; omega)) | refine c_cond_t (by exact rfl) ?_ | fail
            refine o_st_row (i := 1) (by exact rfl) (by exact rfl) (by exact rfl) rfl (by omega) ?_
            repeat' first
              | refine s_idx (by exact rfl) (by exact rfl) (by exact rfl) (by assumption) (by first | assumption | omega) ?_ | fail
            refine o_st_row (i := 2) (by exact rfl) (by exact rfl) (by exact rfl) rfl (by omega) ?_
            repeat' first
              | refine k_then ?_ | refine c_region ?_ | refine s_nil ?_ | refine s_move (by exact rfl) (by exact rfl) ?_ | fail
            rw [bV_set, show ((out2.getD x 0 : Nat) : Int) + 1 = ((out2.getD x 0 + 1 : Nat) : Int) from by omega, nV_set]
            refine o_mk [_] (by exact rfl) (by exact rfl) rfl ?_ ?_ (by simp) fun vt hvt => ?_
            · simp [Value.cells]
            · simp
            skip
            refine o_append_row (i := 1) (by exact rfl) (by exact rfl) (by exact rfl) (by exact rfl) (by exact .head _) (by exact rfl) (by simp [Value.cells, Value.oneCell']) ?_ fun vl2 hvl2 => ?_
            · simp only [List.length_cons] at hM2 hM ⊢
              omega
            repeat' first
              | refine k_then ?_ | refine c_region ?_ | refine s_nil ?_ | refine s_move (by exact rfl) (by exact rfl) ?_ | refine s_assign (by exact rfl) (by exact rfl) ?_ | refine s_add (by exact rfl) (by exact rfl) (by exact rfl) (by omega) ?_ | refine k_blk ?_ | fail
            refine c_round (j + 1, vl2, rest2 ++ [u], met2.set u true, out2.set u (out2.getD x 0 + 1), fun z => if z = u then i else lab2 z) [1, 1, 1, 1, 1] ?_ (by exact ⟨rfl, rfl, rfl, rfl, rfl, rfl, rfl, rfl, rfl, rfl, rfl, trivial⟩) ⟨by omega, hB2, hS2, ?_, ?_, ?_⟩ (by dsimp only; omega)
            · show pick [_, _, _, _, _, _] [1, 1, 1, 1, 1] = some [_, _, _, _, _]
              have e1 : rowHP vl2 3 1 ((x :: rest2).length + 1) (nV (x :: rest2) ++ [Value.int .i64 (u : Int)]) = rowHP vl2 3 1 (x :: (rest2 ++ [u])).length (nV (x :: (rest2 ++ [u]))) := by simp [nV]
              rw [← e1]
              rfl
            · intro z
              dsimp only
              rw [getD_set]
              have := hcap z
              split <;> omega
            · simp only [List.length_cons, List.length_append, List.length_nil] at hM2 ⊢
              omega
            · dsimp only
              rw [getD_set]
              split
              · rfl
              · exact hfm
          · rw [hmet] at hmu
            repeat' first
              | refine k_then ?_ | refine c_seq ?_ | refine c_region ?_ | refine s_nil ?_ | refine s_move (by exact rfl) (by exact rfl) ?_ | refine s_assign (by exact rfl) (by exact rfl) ?_ | refine s_lss (by exact rfl) (by exact rfl) (by exact rfl) ?_ | refine s_add (by exact rfl) (by exact rfl) (by exact rfl) (by omega) ?_ | refine s_not (by exact rfl) (by exact rfl) ?_ | refine s_idx (by exact rfl) (by exact rfl) (by exact rfl) (by assumption) (by first | assumption | omega) ?_ | refine s_ld_row (by exact rfl) (by exact rfl) (by exact .tail _ (.head _)) (by assumption) ?_ | refine s_ld_kid (by exact rfl) (by exact rfl) (by assumption) (by exact .tail _ (.tail _ (.tail _ (.tail _ (.head _))))) (by assumption) ?_ | refine c_block ?_ | refine c_skip ?_ | refine k_blk ?_ | (refine c_cond_p (by exact rfl) (fun h => ?_) (fun h => ?_) <;> try (exfalso; omega)) | refine c_cond_f (by exact rfl) ?_ | fail
            refine c_round (j + 1, vl, rest2, met2, out2, lab2) [0, 0, 0, 0, 0] (by exact rfl) (by exact ⟨rfl, rfl, rfl, rfl, rfl, rfl, rfl, rfl, rfl, rfl, rfl, trivial⟩) ⟨by omega, hB, hB.old hA hS hu hmet, hcap, hM2, hfm⟩ (by dsimp only; omega)
        · obtain rfl : j = (A x).length := by omega
          have hlen2 : (x :: rest2).length = rest2.length + 1 := rfl
          repeat' first
            | refine k_then ?_ | refine c_seq ?_ | refine c_region ?_ | refine s_nil ?_ | refine s_move (by exact rfl) (by exact rfl) ?_ | refine s_assign (by exact rfl) (by exact rfl) ?_ | refine s_lss (by exact rfl) (by exact rfl) (by exact rfl) ?_ | refine s_cut_lo (by exact rfl) (by exact rfl) (by exact rfl) (by assumption) (by omega) ?_ | refine c_exit ?_ | refine k_then_exit ?_ | refine k_blk ?_ | refine k_blk_eq ?_ | (refine c_cond_p (by exact rfl) (fun h => ?_) (fun h => ?_) <;> try (exfalso; omega)) | fail
          refine c_cutrow (v := vl) 0 1 (x :: rest2).length (by exact rfl) (by omega) (Nat.le_refl _) ?_
          refine c_round (cutV vl 1 1 (x :: rest2).length, rest2, met2, out2, lab2) [0, 0, 0, 0, 0] ?_ (by exact ⟨rfl, rfl, rfl, rfl, rfl, rfl, rfl, trivial⟩) ⟨hB.pop hS, hcap, ?_, hfm⟩ ?_
          · have e1 : rest2.length + 1 - 1 = rest2.length := by omega
            have e2 : ((nV (x :: rest2)).drop (1 * 1)).take (((x :: rest2).length - 1) * 1) = nV rest2 := by
              simp only [nV, List.map_cons, Nat.one_mul, List.drop_succ_cons, List.drop_zero]
              exact List.take_of_length_le (by simp)
            rw [e2, hlen2, e1]
            rfl
          · dsimp only; omega
          · dsimp only; omega
    · rw [hmet] at hmi
      repeat' first
        | refine k_then ?_ | refine c_seq ?_ | refine c_region ?_ | refine s_nil ?_ | refine s_move (by exact rfl) (by exact rfl) ?_ | refine s_assign (by exact rfl) (by exact rfl) ?_ | refine s_lss (by exact rfl) (by exact rfl) (by exact rfl) ?_ | refine s_add (by exact rfl) (by exact rfl) (by exact rfl) (by omega) ?_ | refine s_idx (by exact rfl) (by exact rfl) (by exact rfl) (by assumption) (by first | assumption | omega) ?_ | refine s_ld_row (by exact rfl) (by exact rfl) (by exact .head _) (by assumption) ?_ | refine c_block ?_ | refine c_skip ?_ | refine c_exit ?_ | refine k_then_exit ?_ | refine k_blk_eq ?_ | (refine c_cond_p (by exact rfl) (fun h => ?_) (fun h => ?_) <;> try (exfalso; omega)) | refine c_cond_t (by exact rfl) ?_ | fail
      refine c_round (i + 1, met, out, lab) [0, 0, 0, 0] (by exact rfl) (by exact ⟨rfl, rfl, rfl, rfl, rfl, trivial⟩) ⟨by omega, hB.next hmet, hcap⟩ (by dsimp only; omega)
  · repeat' first
      | refine k_then ?_ | refine c_seq ?_ | refine c_region ?_ | refine s_nil ?_ | refine s_move (by exact rfl) (by exact rfl) ?_ | refine s_assign (by exact rfl) (by exact rfl) ?_ | refine s_lss (by exact rfl) (by exact rfl) (by exact rfl) ?_ | refine c_exit ?_ | refine c_ret ?_ | refine k_then_exit ?_ | refine k_blk_eq ?_ | (refine c_cond_p (by exact rfl) (fun h => ?_) (fun h => ?_) <;> try (exfalso; omega)) | fail
    obtain rfl : i = N := by omega
    refine ret2 [1] rfl rfl rfl rfl ⟨out, lab, vo, rfl, rfl, hB.lo, hB.lev⟩
end Go.Proofs.YtpajjnkmaebhcabGreat
end
section
namespace Go.Proofs.YtpajjnkmaebhcabGreat
open Go.RowKit Go.Sl Fil
set_option maxRecDepth 100000
set_option maxHeartbeats 8000000
set_option linter.unusedVariables false
set_option linter.unusedSimpArgs false
attribute [local irreducible] Code.wp wpList bodyPost wpQuiet Exit.then Exit.inBlock Post wpAnyH wpOp
theorem Kept_ok (n : Int) (v : Value) (es : List E) (k s : Int) (w : World) (hs : Shp v es.length) (hr : RO w No v (esV es)) (hR : RightG n es) (hk : 1 ≤ k ∧ k ≤ 8 ∧ 0 ≤ s ∧ s ≤ k) :
    Calls Tryz.prog 71 #[.agg #[.int .i64 n, v], .int .i64 k, .int .i64 s] w (Post w No fun r L' => ∃ (out : List Nat) (lab : Nat → Nat) (vo : Value), r = .tuple #[vo, .int .i64 0] ∧ L' = [rowHP vo 4 1 n.toNat (bV (out.map fun x => decide ((x + k.toNat + 1 - s.toNat) % (k.toNat + 1) ≠ 0)))] ∧ out.length = n.toNat ∧ Lev n.toNat (nearS (tn es)) (fun v => out.getD v 0) lab) := by
  have hlo := hR.lo
  have hhi := hR.hi
  refine enter0 (vs := [_, _, _]) Tryz.func71 rfl Tryz.ntmps71 rfl ?_
  repeat' first
    | refine k_then ?_ | refine c_seq ?_ | refine c_region ?_ | refine s_nil ?_ | refine s_assign (by exact rfl) (by exact rfl) ?_ | refine s_ldk_box (by exact rfl) (by exact rfl) (by exact .head _) (by exact rfl) (by exact rfl) ?_ | refine o_box (by exact rfl) (by exact rfl) (fun b => ?_)
  refine o_call (by exact rfl) (by exact rfl) (fun w h => levOf_ok n v es w hs (ro_old h hr) hR) ?_
  rintro _ _ ⟨out, lab, vl, rfl, rfl, hol, hLev⟩
  refine know_row (v := vl) (.head _) fun hvl _ => ?_
  repeat' first
    | refine k_then ?_ | refine c_seq ?_ | refine c_region ?_ | refine s_nil ?_ | refine s_move (by exact rfl) (by exact rfl) ?_ | refine s_assign (by exact rfl) (by exact rfl) ?_ | refine s_fa (by exact rfl) (by exact rfl) ?_ | refine s_ld_box (by exact rfl) (by exact rfl) (by exact .tail _ (.head _)) (by exact rfl) ?_ | refine s_lss (by exact rfl) (by exact rfl) (by exact rfl) ?_ | refine s_gtr (by exact rfl) (by exact rfl) (by exact rfl) ?_ | refine s_neq (by exact rfl) (by exact rfl) (by exact rfl) ?_ | refine s_extract (by exact rfl) (by exact rfl) (by exact rfl) ?_ | refine c_block ?_ | refine c_skip ?_ | refine k_blk ?_ | (refine c_cond_p (by exact rfl) (fun h => ?_) (fun h => ?_) <;> try (exfalso; omega))
  refine o_make (by exact rfl) (by exact rfl) (by exact rfl) (by omega) (by omega) fun vk hvk => ?_
  rw [made1 (z := .bool false) rfl]
  repeat' first
    | refine k_then ?_ | refine c_seq ?_ | refine c_region ?_ | refine s_nil ?_ | refine s_move (by exact rfl) (by exact rfl) ?_ | refine s_assign (by exact rfl) (by exact rfl) ?_ | refine s_len (by exact rfl) (by exact rfl) (by assumption) ?_ | refine c_block ?_
  have hlt := hLev.lt hR.good.adjS
  generalize hN : n.toNat = N at *
  have hnN : n = (N : Int) := by omega
  subst hnN
  obtain ⟨k0, rfl⟩ : ∃ k0 : Nat, k = (k0 : Int) := ⟨k.toNat, by omega⟩
  obtain ⟨s0, rfl⟩ : ∃ s0 : Nat, s = (s0 : Int) := ⟨s.toNat, by omega⟩
  rw [Int.toNat_natCast, Int.toNat_natCast]
  let g : Nat → Bool := fun j => decide ((out.getD j 0 + k0 + 1 - s0) % (k0 + 1) ≠ 0)
  refine c_loop (fun i : Nat => i ≤ N) (fun i => [(1, .int .i64 (k0 : Int)), (2, .int .i64 (s0 : Int)), (10, vk), (35, vl), (36, .int .i64 (N : Int)), (37, .int .i64 (i : Int))]) (fun i => [rowHP vk 4 1 N (bV (fillL g false N i)), rowHP vl 3 1 N (nV out)]) (fun i => N - i) 0 [0, 0] (Nat.zero_le _) ?_ ⟨rfl, rfl, rfl, rfl, rfl, rfl, trivial⟩ ?_
  · rw [fill_zero]
    simp only [bV, List.map_replicate]
    rfl
  intro i hi
  by_cases hil : i < N
  · have hoi := nV_get (l := out) (k := i) (by omega)
    have hli := hlt i hil
    generalize hx : out.getD i 0 = x at *
    repeat' first
      | refine k_then ?_ | refine c_seq ?_ | refine c_region ?_ | refine s_nil ?_ | refine s_move (by exact rfl) (by exact rfl) ?_ | refine s_assign (by exact rfl) (by exact rfl) ?_ | refine s_lss (by exact rfl) (by exact rfl) (by exact rfl) ?_ | refine s_neq (by exact rfl) (by exact rfl) (by exact rfl) ?_ | refine s_add (by exact rfl) (by exact rfl) (by exact rfl) (by omega) ?_ | refine s_sub (by exact rfl) (by exact rfl) (by exact rfl) (by omega) ?_ | refine s_rem (by exact rfl) (by exact rfl) (by exact rfl) (by omega) ?_ | refine s_idx (by exact rfl) (by exact rfl) (by exact rfl) (by assumption) (by first | assumption | omega) ?_ | refine s_ld_row (by exact rfl) (by exact rfl) (by exact .tail _ (.head _)) (by assumption) ?_ | refine c_block ?_ | refine c_skip ?_ | (refine c_cond_p (by exact rfl) (fun h => ?_) (fun h => ?_) <;> try (exfalso; omega))
    refine o_st_row (i := 0) (by exact rfl) (by exact rfl) (by exact rfl) rfl (by omega) ?_
    repeat' first
      | refine k_then ?_ | refine c_region ?_ | refine s_nil ?_ | refine s_move (by exact rfl) (by exact rfl) ?_ | refine s_add (by exact rfl) (by exact rfl) (by exact rfl) (by omega) ?_ | refine k_blk ?_
    refine c_round (i + 1) [0, 0] ?_ (by exact ⟨rfl, rfl, rfl, rfl, rfl, rfl, trivial⟩) (by omega) (by omega)
    rw [← fill_set g false hil, ← bV_set]
    have e : decide (((x : Int) + (k0 : Int) + 1 - (s0 : Int)) % ((k0 : Int) + 1) ≠ 0) = g i := by
      simp only [g, hx]
      have e1 : ((x : Int) + (k0 : Int) + 1 - (s0 : Int)) % ((k0 : Int) + 1) = (((x + k0 + 1 - s0) % (k0 + 1) : Nat) : Int) := by
        rw [Int.natCast_emod, Int.natCast_sub (by omega)]
        simp
      rw [e1]
      exact decide_eq_decide.2 (not_congr Int.natCast_eq_zero)
    rw [← e]
    rfl
  · repeat' first
      | refine k_then ?_ | refine c_seq ?_ | refine c_region ?_ | refine s_nil ?_ | refine s_move (by exact rfl) (by exact rfl) ?_ | refine s_assign (by exact rfl) (by exact rfl) ?_ | refine s_lss (by exact rfl) (by exact rfl) (by exact rfl) ?_ | refine c_exit ?_ | refine c_ret ?_ | refine k_then_exit ?_ | refine k_blk_eq ?_ | (refine c_cond_p (by exact rfl) (fun h => ?_) (fun h => ?_) <;> try (exfalso; omega))
    obtain rfl : i = N := by omega
    refine ret2 [0] rfl rfl rfl rfl ⟨out, lab, vk, rfl, ?_, hol, hLev⟩
    rw [fillL_all, ← hol, map_getD (f := fun x => decide ((x + k0 + 1 - s0) % (k0 + 1) ≠ 0))]
end Go.Proofs.YtpajjnkmaebhcabGreat
end
section
namespace Go.Proofs.YtpajjnkmaebhcabGreat
open Go.RowKit Go.Sl Fil
set_option maxRecDepth 100000
set_option maxHeartbeats 8000000
set_option linter.unusedVariables false
set_option linter.unusedSimpArgs false
attribute [local irreducible] Code.wp wpList bodyPost wpQuiet Exit.then Exit.inBlock Post wpAnyH wpOp
theorem some_ok (n : Int) (v : Value) (es : List E) (f : FuncId) (caps : List Value) (p : E → Bool) (w : World) [FnTy Tryz.prog f] (hs : Shp v es.length) (hr : RO w No v (esV es)) (hR : RightG n es)
    (hcl : ∀ (k : Nat) e, es[k]? = some e → ∀ w' S', Mod w No w' S' → Calls Tryz.prog f ([Value.int .i64 (k : Int), Value.agg (eV e).toArray] ++ caps).toArray w' (Post w' No (Just (.bool (p e))))) :
    Calls Tryz.prog 96 #[.agg #[.int .i64 n, v], .func (.func f) #[] caps.toArray] w (Post w No fun r L' => ∃ vo, r = .agg #[.int .i64 n, vo] ∧ L' = [rowHP vo 37 3 (es.filter p).length (esV (es.filter p))]) := by
  have hR0 := right_iff.2 hR
  have hm : es.length < 4611686018427387904 := by have := hR.many; omega
  refine enter0 (vs := [_, _]) Tryz.func96 rfl Tryz.ntmps96 rfl ?_
  repeat' first
    | refine k_then ?_ | refine c_seq ?_ | refine c_region ?_ | refine s_nil ?_ | refine s_ldk_box (by exact rfl) (by exact rfl) (by exact .tail _ (.head _)) (by exact rfl) (by exact rfl) ?_ | refine o_box (by exact rfl) (by exact rfl) (fun b => ?_) | refine o_alloc (by exact rfl) (fun b => ?_) | fail
  refine s_call (by exact rfl) (by exact rfl) (fun w h => Right_ok n v es w hs (ro_old h hr) hm) ?_
  repeat' first
    | refine k_then ?_ | refine c_seq ?_ | refine c_region ?_ | refine s_nil ?_ | refine s_fa (by exact rfl) (by exact rfl) ?_ | refine s_ld_box (by exact rfl) (by exact rfl) (by exact .tail _ (.head _)) (by exact rfl) ?_ | refine s_neq (by exact rfl) (by exact rfl) (by exact rfl) ?_ | refine c_skip ?_ | (refine c_cond_p (by exact rfl) (fun h => ?_) (fun h => ?_) <;> try (exfalso; omega)) | fail
  refine o_build [(0, .int .i64 n, [.int .i64 n])] (by exact rfl) (by exact rfl) (by simp [Value.cells]) (by exact rfl) ?_
  repeat' first
    | refine o_alloc (by exact rfl) (fun b => ?_) | fail
  refine o_stk_box (i := 0) (us := [.int .i64 n, .slice none 0 0]) (by exact rfl) (by exact rfl) (by exact rfl) (by exact rfl) (by exact rfl) (by simp [Value.oneCell']) (by simp [Value.cells]) ?_
  repeat' first
    | refine k_then ?_ | refine c_seq ?_ | refine c_region ?_ | refine s_nil ?_ | refine s_move (by exact rfl) (by exact rfl) ?_ | refine s_fa (by exact rfl) (by exact rfl) ?_ | refine s_ld_box (by exact rfl) (by exact rfl) (by exact .tail _ (.tail _ (.head _))) (by exact rfl) ?_ | refine s_len (by exact rfl) (by exact rfl) (by assumption) ?_ | refine c_block ?_ | fail
  rename_i bg b1
  refine c_nil 37 3 ?_
  refine c_loop (fun x : Nat × Value => x.1 ≤ es.length) (fun x => [(1, .func (.func f) #[] caps.toArray), (4, .pointer (some ⟨b1, 0, none⟩)), (5, .pointer (some ⟨b, 0, none⟩)), (16, v), (17, .int .i64 (es.length : Int)), (18, .int .i64 (x.1 : Int))])
    (fun x => [rowHP x.2 37 3 ((es.take x.1).filter p).length (esV ((es.take x.1).filter p)), boxHP b 24 [.int .i64 n, x.2], boxHP b1 24 [.int .i64 0, .slice none 0 0]]) (fun x => es.length - x.1) (0, .slice none 0 0) [0, 0, 0] (Nat.zero_le _) (by exact rfl) ⟨rfl, rfl, rfl, rfl, rfl, rfl, trivial⟩ ?_
  rintro ⟨k, vx⟩ hk
  dsimp only at hk ⊢
  refine know_row (v := vx) (.head _) fun hvx _ => ?_
  by_cases hlt : k < es.length
  · obtain ⟨e, he⟩ : ∃ e, es[k]? = some e := ⟨_, List.getElem?_eq_getElem hlt⟩
    have hE := esV_at he
    have hcnt : ((es.take k).filter p).length ≤ 4194304 := by
      have h1 := List.length_filter_le p (es.take k)
      have h2 := hR.many
      rw [List.length_take] at h1
      omega
    have htk : (es.take (k + 1)).filter p = (es.take k).filter p ++ (if p e then [e] else []) := by
      rw [List.take_add_one, he, List.filter_append]
      simp [List.filter_cons]
    repeat' first
      | refine k_then ?_ | refine c_seq ?_ | refine c_region ?_ | refine s_nil ?_ | refine s_move (by exact rfl) (by exact rfl) ?_ | refine s_assign (by exact rfl) (by exact rfl) ?_ | refine s_lss (by exact rfl) (by exact rfl) (by exact rfl) ?_ | refine s_idx (by exact rfl) (by exact rfl) (by exact rfl) (by assumption) (by first | assumption | omega) ?_ | refine s_ldk_ro (by exact rfl) (by exact rfl) (by assumption) (by decide) (by assumption) (by exact rfl) ?_ | refine o_alloc (by exact rfl) (fun b => ?_) | refine c_block ?_ | refine c_skip ?_ | (refine c_cond_p (by exact rfl) (fun h => ?_) (fun h => ?_) <;> try (exfalso; omega)) | fail
    refine o_stk_box (i := 0) (us := eV e) (by exact rfl) (by exact rfl) (by exact rfl) (by exact rfl) (by exact rfl) (by simp [eV, Value.oneCell']) (by simp [Value.cells]) ?_
    repeat' first
      | refine k_then ?_ | refine c_seq ?_ | refine c_region ?_ | refine s_nil ?_ | refine s_move (by exact rfl) (by exact rfl) ?_ | refine s_ldk_box (by exact rfl) (by exact rfl) (by exact .head _) (by exact rfl) (by exact rfl) ?_ | fail
    refine s_callv (pre := []) (by exact rfl) (by exact rfl) (by exact rfl) (fun w h => h.mod0.elim fun S' hm => hcl k e he w S' hm) ?_
    cases hp : p e
    · rw [hp, if_neg (by simp), List.append_nil] at htk
      repeat' first
        | refine k_then ?_ | refine c_region ?_ | refine s_nil ?_ | refine s_move (by exact rfl) (by exact rfl) ?_ | refine s_add (by exact rfl) (by exact rfl) (by exact rfl) (by omega) ?_ | refine c_skip ?_ | refine k_blk ?_ | refine c_cond_f (by exact rfl) ?_ | fail
      refine c_round (k + 1, vx) [1, 1, 1] (by dsimp only; rw [htk]; rfl) (by exact ⟨rfl, rfl, rfl, rfl, rfl, rfl, trivial⟩) (by dsimp only; omega) (by dsimp only; omega)
    · rw [hp, if_pos rfl] at htk
      repeat' first
        | refine k_then ?_ | refine c_region ?_ | refine s_nil ?_ | refine s_fa (by exact rfl) (by exact rfl) ?_ | refine s_ld_box (by exact rfl) (by exact rfl) (by exact .tail _ (.tail _ (.head _))) (by exact rfl) ?_ | refine s_ldk_box (by exact rfl) (by exact rfl) (by exact .head _) (by exact rfl) (by exact rfl) ?_ | refine c_cond_t (by exact rfl) ?_ | fail
      refine o_mk [.agg (eV e).toArray] (by exact rfl) (by exact rfl) rfl ?_ ?_ (by simp) fun vt hvt => ?_
      · simp [Value.cells, eV]
      · simp
      skip
      refine o_append_row (i := 2) (by exact rfl) (by exact rfl) (by exact rfl) (by exact rfl) (by exact .head _) (by simp [Value.cells, eV]) (by simp [Value.cells, eV, Value.oneCell']) ?_ fun vy hvy => ?_
      · omega
      repeat' first
        | refine s_fa (by exact rfl) (by exact rfl) ?_ | fail
      refine o_st_box (i := 3) (by exact rfl) (by exact rfl) (by exact rfl) hvy.one (by simp [Value.cells]) ?_
      repeat' first
        | refine k_then ?_ | refine c_region ?_ | refine s_nil ?_ | refine s_move (by exact rfl) (by exact rfl) ?_ | refine s_add (by exact rfl) (by exact rfl) (by exact rfl) (by omega) ?_ | refine k_blk ?_ | fail
      refine c_round (k + 1, vy) [2, 2, 2] ?_ (by exact ⟨rfl, rfl, rfl, rfl, rfl, rfl, trivial⟩) (by dsimp only; omega) (by dsimp only; omega)
      dsimp only
      rw [htk, esV_snoc, List.length_append]
      rfl
  · repeat' first
      | refine k_then ?_ | refine c_seq ?_ | refine c_region ?_ | refine s_nil ?_ | refine s_lss (by exact rfl) (by exact rfl) (by exact rfl) ?_ | refine s_ldk_box (by exact rfl) (by exact rfl) (by exact .tail _ (.head _)) (by exact rfl) (by exact rfl) ?_ | refine c_exit ?_ | refine k_then_exit ?_ | refine k_blk_eq ?_ | (refine c_cond_p (by exact rfl) (fun h => ?_) (fun h => ?_) <;> try (exfalso; omega)) | fail
    obtain rfl : k = es.length := by omega
    refine o_stk_box (i := 2) (us := [.int .i64 n, vx]) (by exact rfl) (by exact rfl) (by exact rfl) (by exact rfl) (by exact rfl) (by
      intro u hu
      simp only [List.mem_cons, List.not_mem_nil, or_false] at hu
      rcases hu with rfl | rfl
      · rfl
      · exact hvx.one) (by simp [Value.cells]) ?_
    repeat' first
      | refine k_then ?_ | refine s_nil ?_ | refine c_ret ?_ | fail
    refine retL [.cell 4 24] [.agg #[.int .i64 n, vx]] [0] rfl ⟨res_cellk (tb := 24) (cs := [.int .i64 n, vx]) rfl (.tail _ (.tail _ (.head _))) rfl rfl, trivial⟩ rfl ⟨vx, rfl, ?_⟩
    rw [List.take_length]
theorem only1_ok (x : Nat) (b : Nat) (vk : Value) (keep : List Bool) (w : World) (hb : RB w No b 57 [vk]) (hs : Shp vk keep.length) (hr : RO w No vk (bV keep)) :
    Calls Tryz.prog 95 #[.int .i64 (x : Int), .pointer (some ⟨b, 0, none⟩)] w (Post w No (Just (.bool (keep.getD x false)))) := by
  refine enter0 (vs := [_, _]) Tryz.func95 rfl Tryz.ntmps95 rfl ?_
  by_cases hx : x < keep.length
  · have hg := bV_get hx
    repeat' first
      | refine k_then ?_ | refine c_seq ?_ | refine c_region ?_ | refine s_nil ?_ | refine s_move (by exact rfl) (by exact rfl) ?_ | refine s_assign (by exact rfl) (by exact rfl) ?_ | refine s_lss (by exact rfl) (by exact rfl) (by exact rfl) ?_ | refine s_len (by exact rfl) (by exact rfl) (by assumption) ?_ | refine s_pick_t (by exact rfl) (by exact rfl) (by exact rfl) ?_ | refine s_ld_rb (by exact rfl) (by exact rfl) (by assumption) (by exact rfl) ?_ | refine c_ret ?_ | (refine g_case (by exact rfl) (by exact rfl) (fun h => ?_) (fun h => ?_) <;> try (exfalso; omega)) | refine w_move (by exact rfl) (by exact rfl) (by exact rfl) (by exact rfl) ?_ | refine w_idx (by exact rfl) (by exact rfl) (by exact rfl) (by exact rfl) (by exact rfl) (by assumption) (by first | assumption | omega) ?_ | refine w_ld_ro (by exact rfl) (by exact rfl) (by exact rfl) (by exact rfl) (by assumption) (by assumption) ?_ | refine w_ld_rb (by exact rfl) (by exact rfl) (by exact rfl) (by exact rfl) (by assumption) (by exact rfl) ?_ | fail
    refine ret1 [] rfl rfl rfl ⟨rfl, rfl⟩
  · repeat' first
      | refine k_then ?_ | refine c_seq ?_ | refine c_region ?_ | refine s_nil ?_ | refine s_move (by exact rfl) (by exact rfl) ?_ | refine s_assign (by exact rfl) (by exact rfl) ?_ | refine s_lss (by exact rfl) (by exact rfl) (by exact rfl) ?_ | refine s_len (by exact rfl) (by exact rfl) (by assumption) ?_ | refine s_pick_f (by exact rfl) (by exact rfl) (by exact rfl) ?_ | refine s_ld_rb (by exact rfl) (by exact rfl) (by assumption) (by exact rfl) ?_ | refine c_ret ?_ | (refine g_case (by exact rfl) (by exact rfl) (fun h => ?_) (fun h => ?_) <;> try (exfalso; omega)) | refine g_skip (by exact rfl) (by exact rfl) (by exact rfl) (by exact rfl) ?_ | fail
    refine ret1 [] rfl rfl rfl ⟨congrArg Value.bool ?_, rfl⟩
    simp [hx]
theorem only2_ok (k : Int) (e : E) (x y : Nat) (bk c : Nat) (vk : Value) (keep : List Bool) (w : World) (hx : e.1 = x) (hy : e.2.1 = y) (hb : RB w No bk 57 [vk]) (hc : RB w No c 89 [.func (.func 95) #[] #[.pointer (some ⟨bk, 0, none⟩)]]) (hs : Shp vk keep.length) (hr : RO w No vk (bV keep)) :
    Calls Tryz.prog 97 #[.int .i64 k, .agg (eV e).toArray, .pointer (some ⟨c, 0, none⟩)] w (Post w No (Just (.bool (keep.getD x false && keep.getD y false)))) := by
  refine enter0 (vs := [_, _, _]) Tryz.func97 rfl Tryz.ntmps97 rfl ?_
  obtain ⟨e1, e2, e3⟩ := e
  dsimp only at hx hy
  subst hx hy
  repeat' first
    | refine k_then ?_ | refine c_seq ?_ | refine c_region ?_ | refine s_nil ?_ | refine s_assign (by exact rfl) (by exact rfl) ?_ | refine s_fa (by exact rfl) (by exact rfl) ?_ | refine s_ld_box (by exact rfl) (by exact rfl) (by exact .head _) (by exact rfl) ?_ | refine s_ld_rb (by exact rfl) (by exact rfl) (by assumption) (by exact rfl) ?_ | refine o_box (by exact rfl) (by exact rfl) (fun b => ?_) | fail
  refine s_callv (pre := []) (vs := [.int .i64 (x : Int)]) (by exact rfl) (by exact rfl) (by exact rfl) (fun w h => only1_ok x bk vk keep w (rb_old h hb) hs (ro_old h hr)) ?_
  cases keep.getD x false
  · repeat' first
      | refine k_then ?_ | refine s_nil ?_ | refine s_move (by exact rfl) (by exact rfl) ?_ | refine s_assign (by exact rfl) (by exact rfl) ?_ | refine s_pick_f (by exact rfl) (by exact rfl) (by exact rfl) ?_ | refine c_ret ?_ | refine g_skip (by exact rfl) (by exact rfl) (by exact rfl) (by exact rfl) ?_ | fail
    refine ret1 [] rfl rfl rfl ⟨rfl, rfl⟩
  · repeat' first
      | refine s_move (by exact rfl) (by exact rfl) ?_ | refine w_fa (by exact rfl) (by exact rfl) (by exact rfl) (by exact rfl) ?_ | refine w_ld_box (by exact rfl) (by exact rfl) (by exact rfl) (by exact rfl) (by exact .head _) (by exact rfl) ?_ | refine w_ld_rb (by exact rfl) (by exact rfl) (by exact rfl) (by exact rfl) (by assumption) (by exact rfl) ?_ | fail
    refine w_callv (pre := []) (vs := [.int .i64 (y : Int)]) (by exact rfl) (by exact rfl) (by exact rfl) (by exact rfl) (by exact rfl) (fun w h => only1_ok y bk vk keep w (rb_old h hb) hs (ro_old h hr)) ?_
    repeat' first
      | refine k_then ?_ | refine s_nil ?_ | refine s_assign (by exact rfl) (by exact rfl) ?_ | refine s_pick_t (by exact rfl) (by exact rfl) (by exact rfl) ?_ | refine c_ret ?_ | fail
    refine ret1 [] rfl rfl rfl ⟨rfl, rfl⟩
def keepE (keep : List Bool) (e : E) : Bool := keep.getD e.1.toNat false && keep.getD e.2.1.toNat false
theorem Only_ok (n : Int) (v : Value) (es : List E) (vk : Value) (keep : List Bool) (w : World) (hs : Shp v es.length) (hr : RO w No v (esV es)) (hR : RightG n es) (hks : Shp vk keep.length) (hkr : RO w No vk (bV keep)) :
    Calls Tryz.prog 73 #[.agg #[.int .i64 n, v], vk] w (Post w No fun r L' => ∃ vo, r = .agg #[.int .i64 n, vo] ∧ L' = [rowHP vo 37 3 (es.filter (keepE keep)).length (esV (es.filter (keepE keep)))]) := by
  refine enter0 (vs := [_, _]) Tryz.func73 rfl Tryz.ntmps73 rfl ?_
  repeat' first
    | refine k_then ?_ | refine c_seq ?_ | refine c_region ?_ | refine s_nil ?_ | refine o_box (by exact rfl) (by exact rfl) (fun b => ?_) | refine o_alloc (by exact rfl) (fun b => ?_) | fail
  rename_i b2 b3
  rw [one_cells hks.one]
  refine o_mkf [] [.pointer (some ⟨b3, 0, none⟩)] (by exact rfl) (by exact rfl) (by exact rfl) ?_
  repeat' first
    | refine o_alloc (by exact rfl) (fun b => ?_) | fail
  rename_i b5
  refine o_st_box (i := 0) (by exact rfl) (by exact rfl) (by exact rfl) rfl (by simp [Value.cells]) ?_
  repeat' first
    | refine k_then ?_ | refine c_seq ?_ | refine c_region ?_ | refine s_nil ?_ | refine s_ldk_box (by exact rfl) (by exact rfl) (by exact .tail _ (.tail _ (.tail _ (.head _)))) (by exact rfl) (by exact rfl) ?_ | fail
  refine o_mkf [] [.pointer (some ⟨b, 0, none⟩)] (by exact rfl) (by exact rfl) (by exact rfl) ?_
  refine o_call (vs := [.agg #[.int .i64 n, v], .func (.func 97) #[] #[.pointer (some ⟨b, 0, none⟩)]]) (by exact rfl) (by exact rfl) (fun w h => some_ok n v es 97 [.pointer (some ⟨b, 0, none⟩)] (keepE keep) w hs (ro_old h hr) hR ?_) ?_
  · intro k e he w' S' hm
    obtain ⟨q1, q2, q3, -, -⟩ := hR.ok e (List.mem_of_getElem? he)
    exact only2_ok k e e.1.toNat e.2.1.toNat b3 b vk keep w' (by omega) (by omega) (rb_mod (rb_own h (.tail _ (.tail _ (.head _)))) hm) (rb_mod (rb_own h (.head _)) hm) hks (ro_mod (ro_old h hkr) hm)
  rintro _ _ ⟨vo, rfl, rfl⟩
  refine know_row (v := vo) (.head _) fun hvo _ => ?_
  skip
  refine o_stk_box (i := 2) (us := [.int .i64 n, vo]) (by exact rfl) (by exact rfl) (by exact rfl) (by exact rfl) (by exact rfl) ?_ (by simp [Value.cells]) ?_
  · intro u hu
    simp only [List.mem_cons, List.not_mem_nil, or_false] at hu
    rcases hu with rfl | rfl
    · rfl
    · exact hvo.one
  repeat' first
    | refine k_then ?_ | refine s_nil ?_ | refine c_ret ?_ | fail
  refine retL [.cell 4 24] [.agg #[.int .i64 n, vo]] [0] rfl ⟨res_cellk (tb := 24) (cs := [.int .i64 n, vo]) rfl (.tail _ (.tail _ (.head _))) rfl rfl, trivial⟩ rfl ⟨vo, rfl, rfl⟩
end Go.Proofs.YtpajjnkmaebhcabGreat
end
section
namespace Fil
def swapE (e : E) : E := if e.2.1 < e.1 then (e.2.1, e.1, e.2.2) else e
def posE (g : List E) (e : E) : Nat → Nat
  | 0 => 0
  | k + 1 => if belowB e (g.getD k (0, 0, 0)) then posE g e k else k + 1
def insE (g : List E) (e : E) : List E := g.take (posE g e g.length) ++ [e] ++ g.drop (posE g e g.length)
def twE (g : List E) (e : E) : Bool := decide (0 < posE g e g.length) && !belowB (g.getD (posE g e g.length - 1) (0, 0, 0)) e
def makeF (n : Int) : List E → List E → Bool → Int × List E
  | [], g, tw => if tw then (7, []) else (0, g)
  | e :: l, g, tw => if aloneK n e.1 e.2.1 e.2.2 = 0 then makeF n l (insE g (swapE e)) (tw || twE g (swapE e)) else (aloneK n e.1 e.2.1 e.2.2, [])
def makeR (n : Int) (l : List E) : Int × List E := if sizesK n l.length = 0 then makeF n l [] false else (sizesK n l.length, [])
theorem posE_le (g : List E) (e : E) : ∀ k, posE g e k ≤ k
  | 0 => Nat.le_refl _
  | k + 1 => by
    rw [posE]
    have := posE_le g e k
    split <;> omega
end Fil
namespace Go.Proofs.YtpajjnkmaebhcabGreat
open Go Go.RowKit Go.Sl Fil
set_option maxRecDepth 100000
set_option maxHeartbeats 8000000
set_option linter.unusedVariables false
set_option linter.unusedSimpArgs false
attribute [local irreducible] Code.wp wpList bodyPost wpQuiet Exit.then Exit.inBlock Post wpAnyH wpOp
theorem eV_one (e : E) : ∀ u ∈ eV e, u.oneCell' = true := by
  intro u hu
  simp only [eV, List.mem_cons, List.not_mem_nil, or_false] at hu
  rcases hu with rfl | rfl | rfl <;> rfl
theorem esV_one (l : List E) : ∀ u ∈ esV l, u.oneCell' = true := by
  intro u hu
  obtain ⟨e, _, he⟩ := List.mem_flatMap.1 hu
  exact eV_one e u he
theorem esV_append (a b : List E) : esV (a ++ b) = esV a ++ esV b := by simp [esV]
end Go.Proofs.YtpajjnkmaebhcabGreat
end
