/- Package graph: which graphs are right. -/
import Derived.Test.YtkekpgkacjpjnaaTy
import Derived.Test.YtkekpgkacjpjnaaPGraph
namespace Go.Proofs.Ytkekpgkacjpjnaa
open Go.RowKit Go.Sl Fil
set_option maxRecDepth 100000
set_option maxHeartbeats 8000000
set_option linter.unusedVariables false
set_option linter.unusedSimpArgs false
attribute [local irreducible] Code.wp wpList bodyPost wpQuiet Exit.then Exit.inBlock Post wpAnyH wpOp
def eV (e : E) : List Value := [.int .i64 e.1, .int .i64 e.2.1, .int .i64 e.2.2]
def esV (es : List E) : List Value := es.flatMap eV
theorem esV_at {es : List E} {k : Nat} {e : E} (h : es[k]? = some e) : ((esV es).drop (k * 3)).take 3 = eV e := by
  induction es generalizing k with
  | nil => simp at h
  | cons x es ih =>
    cases k with
    | zero =>
      obtain rfl : x = e := by simpa using h
      rfl
    | succ k =>
      have := ih (k := k) (by simpa using h)
      rw [show (k + 1) * 3 = 3 + k * 3 from by omega]
      show (((eV x) ++ esV es).drop (3 + k * 3)).take 3 = eV e
      rw [← List.drop_drop, List.drop_append_of_le_length (by simp [eV])]
      simpa [eV] using this
theorem esV_length (es : List E) : (esV es).length = es.length * 3 := by
  induction es with
  | nil => rfl
  | cons x es ih => show ((eV x) ++ esV es).length = _; rw [List.length_append, ih]; simp [eV]; omega

theorem isNaN_ok (a : Int) (w : World) : Calls Try.prog 97 #[.int .i64 a] w (Post w No (Just (.bool false))) := by
  refine enter0 (vs := [_]) Try.func97 rfl Try.ntmps97 rfl ?_
  repeat' first
    | refine k_then ?_
    | refine c_seq ?_
    | refine c_region ?_
    | refine s_nil ?_
    | refine s_move (by exact rfl) (by exact rfl) ?_
    | refine s_assign (by exact rfl) (by exact rfl) ?_
    | refine s_neq (by exact rfl) (by exact rfl) (by exact rfl) ?_
    | refine c_ret ?_
  refine ret1 [] rfl rfl rfl ⟨by simp, rfl⟩

theorem Compare_ok (a b : Int) (w : World) : Calls Try.prog 76 #[.int .i64 a, .int .i64 b] w (Post w No (Just (.int .i64 (cmpK a b)))) := by
  refine enter0 (vs := [_, _]) Try.func76 rfl Try.ntmps76 rfl ?_
  repeat' first
    | refine k_then ?_
    | refine c_seq ?_
    | refine c_region ?_
    | refine s_nil ?_
    | refine s_move (by exact rfl) (by exact rfl) ?_
    | refine s_assign (by exact rfl) (by exact rfl) ?_
  refine s_call (by exact rfl) (by exact rfl) (fun w hs => isNaN_ok _ w) ?_
  repeat' first
    | refine k_then ?_
    | refine c_seq ?_
    | refine c_region ?_
    | refine s_nil ?_
    | refine s_move (by exact rfl) (by exact rfl) ?_
    | refine s_assign (by exact rfl) (by exact rfl) ?_
  refine s_call (by exact rfl) (by exact rfl) (fun w hs => isNaN_ok _ w) ?_
  repeat' first
    | refine k_then ?_
    | refine c_seq ?_
    | refine c_region ?_
    | refine s_nil ?_
    | refine s_move (by exact rfl) (by exact rfl) ?_
    | refine s_assign (by exact rfl) (by exact rfl) ?_
    | refine s_lss (by exact rfl) (by exact rfl) (by exact rfl) ?_
    | refine s_gtr (by exact rfl) (by exact rfl) (by exact rfl) ?_
    | refine c_skip ?_
    | refine c_ret ?_
    | refine k_then_ret ?_
    | (refine c_cond_p (by exact rfl) (fun h => ?_) (fun h => ?_) <;> try (exfalso; omega))
    | refine c_cond_f (by exact rfl) ?_
  all_goals refine ret1 [] rfl rfl rfl ⟨?_, rfl⟩
  all_goals (refine congrArg (Value.int .i64) ?_; simp only [cmpK]; repeat' split)
  all_goals omega

theorem Or_ok (s : Value) (a b : Int) (w : World) (hr : RO w No s [.int .i64 a, .int .i64 b]) (hs : Shp s 2) : Calls Try.prog 75 #[s] w (Post w No (Just (.int .i64 (if a = 0 then b else a)))) := by
  refine enter0 (vs := [_]) Try.func75 rfl Try.ntmps75 rfl ?_
  repeat' first
    | refine k_then ?_
    | refine c_seq ?_
    | refine c_region ?_
    | refine s_nil ?_
    | refine s_move (by exact rfl) (by exact rfl) ?_
    | refine s_assign (by exact rfl) (by exact rfl) ?_
    | refine s_len (by exact rfl) (by exact rfl) (by assumption) ?_
    | refine c_block ?_
  refine c_loop (fun k : Nat => k ≤ 2 ∧ (0 < k → a = 0) ∧ (1 < k → b = 0)) (fun k => [(0, s), (6, s), (7, .int .i64 2), (8, .int .i64 (k : Int)), (3, .int .i64 0)]) (fun _ => []) (fun k => 2 - k) 0 [] ⟨by omega, by omega, by omega⟩ rfl ⟨rfl, rfl, rfl, rfl, rfl, trivial⟩ ?_
  rintro k ⟨hk, ha, hb⟩
  by_cases hlt : k < 2
  · have hc : ([.int .i64 a, .int .i64 b] : List Value)[k * 1]? = some (.int .i64 (if k = 0 then a else b)) := by
      rcases Nat.lt_or_ge k 1 with h | h
      · obtain rfl : k = 0 := by omega
        rfl
      · obtain rfl : k = 1 := by omega
        rfl
    repeat' first
      | refine k_then ?_
      | refine c_seq ?_
      | refine c_region ?_
      | refine s_nil ?_
      | refine s_move (by exact rfl) (by exact rfl) ?_
      | refine s_assign (by exact rfl) (by exact rfl) ?_
      | refine s_lss (by exact rfl) (by exact rfl) (by exact rfl) ?_
      | refine s_neq (by exact rfl) (by exact rfl) (by exact rfl) ?_
      | refine s_add (by exact rfl) (by exact rfl) (by exact rfl) (by omega) ?_
      | refine s_idx (by exact rfl) (by exact rfl) (by exact rfl) (by assumption) (by first | assumption | omega) ?_
      | refine s_ld_ro (by exact rfl) (by exact rfl) (by assumption) (by assumption) ?_
      | refine c_block ?_
      | refine c_skip ?_
      | refine c_ret ?_
      | refine k_then_ret ?_
      | refine k_blk ?_
      | refine k_blk_ret ?_
      | (refine c_cond_p (by exact rfl) (fun h => ?_) (fun h => ?_) <;> try (exfalso; omega))
    · refine ret1 [] rfl rfl rfl ⟨congrArg (Value.int .i64) ?_, rfl⟩
      rcases Nat.lt_or_ge k 1 with h' | h'
      · obtain rfl : k = 0 := by omega
        simp_all
      · obtain rfl : k = 1 := by omega
        simp_all
    · refine c_round (k + 1) [] (by exact rfl) (by exact ⟨rfl, rfl, rfl, rfl, rfl, trivial⟩) ⟨by omega, fun _ => ?_, fun _ => ?_⟩ (by omega)
      · rcases Nat.lt_or_ge k 1 with h' | h'
        · obtain rfl : k = 0 := by omega
          simp_all
        · exact ha (by omega)
      · obtain rfl : k = 1 := by omega
        simp_all
  · repeat' first
      | refine k_then ?_
      | refine c_seq ?_
      | refine c_region ?_
      | refine s_nil ?_
      | refine s_move (by exact rfl) (by exact rfl) ?_
      | refine s_assign (by exact rfl) (by exact rfl) ?_
      | refine s_lss (by exact rfl) (by exact rfl) (by exact rfl) ?_
      | refine c_exit ?_
      | refine c_ret ?_
      | refine k_then_exit ?_
      | refine k_blk_eq ?_
      | (refine c_cond_p (by exact rfl) (fun h => ?_) (fun h => ?_) <;> try (exfalso; omega))
    refine ret1 [] rfl rfl rfl ⟨congrArg (Value.int .i64) ?_, rfl⟩
    simp [ha (by omega), hb (by omega)]

theorem sizes_ok (n m : Int) (w : World) :
    Calls Try.prog 62 #[.int .i64 n, .int .i64 m] w (Post w No (Just (.int .i64 (sizesK n m)))) := by
  refine enter0 (vs := [_, _]) Try.func62 rfl Try.ntmps62 rfl ?_
  repeat' first
    | refine k_then ?_
    | refine c_seq ?_
    | refine c_region ?_
    | refine s_nil ?_
    | refine s_move (by exact rfl) (by exact rfl) ?_
    | refine s_assign (by exact rfl) (by exact rfl) ?_
    | refine s_lss (by exact rfl) (by exact rfl) (by exact rfl) ?_
    | refine s_gtr (by exact rfl) (by exact rfl) (by exact rfl) ?_
    | refine c_block ?_
    | refine c_skip ?_
    | refine c_ret ?_
    | refine k_then_ret ?_
    | refine k_blk ?_
    | refine k_blk_ret ?_
    | (refine c_cond_p (by exact rfl) (fun h => ?_) (fun h => ?_) <;> try (exfalso; omega))
  all_goals refine ret1 [] rfl rfl rfl ⟨?_, rfl⟩
  all_goals (refine congrArg (Value.int .i64) ?_; simp only [sizesK]; repeat' split)
  all_goals omega

theorem alone_ok (n : Int) (e : E) (w : World) :
    Calls Try.prog 63 #[.int .i64 n, .agg (eV e).toArray] w (Post w No (Just (.int .i64 (aloneK n e.1 e.2.1 e.2.2)))) := by
  refine enter0 (vs := [_, _]) Try.func63 rfl Try.ntmps63 rfl ?_
  repeat' first
    | refine k_then ?_
    | refine c_seq ?_
    | refine c_region ?_
    | refine s_nil ?_
    | refine s_move (by exact rfl) (by exact rfl) ?_
    | refine s_assign (by exact rfl) (by exact rfl) ?_
    | refine s_fa (by exact rfl) (by exact rfl) ?_
    | refine s_ld_box (by exact rfl) (by exact rfl) (by exact .head _) (by exact rfl) ?_
    | refine s_lss (by exact rfl) (by exact rfl) (by exact rfl) ?_
    | refine s_leq (by exact rfl) (by exact rfl) (by exact rfl) ?_
    | refine s_eql (by exact rfl) (by exact rfl) (by exact rfl) ?_
    | refine s_min (by exact rfl) (by exact rfl) (by exact rfl) ?_
    | refine s_pick_t (by exact rfl) (by exact rfl) (by exact rfl) ?_
    | refine s_pick_f (by exact rfl) (by exact rfl) (by exact rfl) ?_
    | refine o_box (by exact rfl) (by exact rfl) (fun b => ?_)
    | refine c_block ?_
    | refine c_skip ?_
    | refine c_ret ?_
    | refine k_then_ret ?_
    | refine k_blk ?_
    | refine k_blk_ret ?_
    | (refine c_cond_p (by exact rfl) (fun h => ?_) (fun h => ?_) <;> try (exfalso; omega))
    | refine c_cond_t (by exact rfl) ?_
    | (refine g_case (by exact rfl) (by exact rfl) (fun h => ?_) (fun h => ?_) <;> try (exfalso; omega))
    | refine g_skip (by exact rfl) (by exact rfl) (by exact rfl) (by exact rfl) ?_
    | refine w_move (by exact rfl) (by exact rfl) (by exact rfl) (by exact rfl) ?_
    | refine w_fa (by exact rfl) (by exact rfl) (by exact rfl) (by exact rfl) ?_
    | refine w_ld_box (by exact rfl) (by exact rfl) (by exact rfl) (by exact rfl) (by exact .head _) (by exact rfl) ?_
    | refine w_geq (by exact rfl) (by exact rfl) (by exact rfl) (by exact rfl) (by exact rfl) ?_
    | refine w_max (by exact rfl) (by exact rfl) (by exact rfl) (by exact rfl) (by exact rfl) ?_
  all_goals refine ret1 [] rfl rfl rfl ⟨?_, rfl⟩
  all_goals (refine congrArg (Value.int .i64) ?_; simp only [aloneK]; repeat' split)
  all_goals omega

theorem order_ok (a b : E) (w : World) : Calls Try.prog 64 #[.agg (eV a).toArray, .agg (eV b).toArray] w (Post w No (Just (.int .i64 (orderK a b)))) := by
  refine enter0 (vs := [_, _]) Try.func64 rfl Try.ntmps64 rfl ?_
  repeat' first
    | refine k_then ?_
    | refine c_seq ?_
    | refine c_region ?_
    | refine s_nil ?_
    | refine s_assign (by exact rfl) (by exact rfl) ?_
    | refine o_box (by exact rfl) (by exact rfl) (fun b => ?_)
  refine p_begin0 [(0, true), (1, true), (2, true), (3, true), (5, true), (6, true), (7, true), (8, true), (4, false), (9, false), (10, false), (11, false), (12, true)] (by kernel_rfl) ?_
  repeat' first
    | (refine p_at (by exact rfl) ?_
       first
        | refine t_fa (by exact rfl) (by exact rfl) (by exact fun _ h => h) ?_
        | refine t_ld_box (by exact rfl) (by exact rfl) (by first | exact .head _ | exact .tail _ (.head _)) (by exact rfl) (by exact fun _ h => h) ?_)
  refine p_call (gd := none) (by exact rfl) rfl (by exact rfl) (fun w hs => Compare_ok _ _ w) (by exact fun _ h => h) ?_
  refine p_call (gd := none) (by exact rfl) rfl (by exact rfl) (fun w hs => Compare_ok _ _ w) (by exact fun _ h => h) ?_
  refine p_mk [_, _] (by exact rfl) rfl (by exact rfl) rfl ?_ ?_ (by simp) (fun w A h => h.tl) (fun s hs => ?_)
  · simp [Value.cells]
  · simp
  refine p_call (gd := none) (by exact rfl) rfl (by exact rfl) (fun w h => Or_ok s _ _ w (ro_own h (.head _)) hs) (by exact fun _ h => h.tl) ?_
  repeat' first
    | refine p_nil ?_
    | (refine p_at (by exact rfl) ?_
       first
        | refine t_assign (by exact rfl) (by exact rfl) (by exact fun _ h => h.tl) ?_)
  repeat' first
    | refine k_then ?_
    | refine c_ret ?_
  refine ret1 [] rfl rfl rfl ⟨?_, rfl⟩
  simp [orderK]

def prev (es : List E) (k : Nat) : Option E := if k = 0 then none else es[k - 1]?

theorem Right_ok (n : Int) (v : Value) (es : List E) (w : World) (hs : Shp v es.length) (hr : RO w No v (esV es)) (hm : es.length < 4611686018427387904) :
    Calls Try.prog 38 #[.agg #[.int .i64 n, v]] w (Post w No (Just (.int .i64 (rightK n es)))) := by
  refine enter0 (vs := [_]) Try.func38 rfl Try.ntmps38 rfl ?_
  repeat' first
    | refine k_then ?_
    | refine c_seq ?_
    | refine c_region ?_
    | refine s_nil ?_
    | refine s_assign (by exact rfl) (by exact rfl) ?_
    | refine s_fa (by exact rfl) (by exact rfl) ?_
    | refine s_ld_box (by exact rfl) (by exact rfl) (by exact .head _) (by exact rfl) ?_
    | refine s_len (by exact rfl) (by exact rfl) (by assumption) ?_
    | refine o_box (by exact rfl) (by exact rfl) (fun b => ?_)
  refine s_call (by exact rfl) (by exact rfl) (fun w hs => sizes_ok _ _ w) ?_
  repeat' first
    | refine k_then ?_
    | refine c_seq ?_
    | refine c_region ?_
    | refine s_nil ?_
    | refine s_move (by exact rfl) (by exact rfl) ?_
    | refine s_assign (by exact rfl) (by exact rfl) ?_
    | refine s_fa (by exact rfl) (by exact rfl) ?_
    | refine s_ld_box (by exact rfl) (by exact rfl) (by exact .head _) (by exact rfl) ?_
    | refine s_neq (by exact rfl) (by exact rfl) (by exact rfl) ?_
    | refine s_len (by exact rfl) (by exact rfl) (by assumption) ?_
    | refine c_block ?_
    | refine c_skip ?_
    | refine c_ret ?_
    | refine k_then_ret ?_
    | (refine c_cond_p (by exact rfl) (fun h => ?_) (fun h => ?_) <;> try (exfalso; omega))
  · refine ret1 [] rfl rfl rfl ⟨congrArg (Value.int .i64) ?_, rfl⟩
    rw [rightK, if_neg h]
  · have h0 : sizesK n es.length = 0 := by simpa using h
    refine c_loop (fun k : Nat => k ≤ es.length ∧ scan n (prev es k) (es.drop k) = scan n none es) (fun k => [(1, .pointer (some ⟨b, 0, none⟩)), (17, v), (18, .int .i64 (es.length : Int)), (19, .int .i64 (k : Int))]) (fun _ => [boxHP b 24 [.int .i64 n, v]]) (fun k => es.length - k) 0 [0] ⟨by omega, rfl⟩ rfl ⟨rfl, rfl, rfl, rfl, trivial⟩ ?_
    rintro k ⟨hk, hsc⟩
    by_cases hlt : k < es.length
    · obtain ⟨e, he⟩ : ∃ e, es[k]? = some e := ⟨_, List.getElem?_eq_getElem hlt⟩
      have hE := esV_at he
      rw [scan_at he] at hsc
      repeat' first
        | refine k_then ?_
        | refine c_seq ?_
        | refine c_region ?_
        | refine s_nil ?_
        | refine s_move (by exact rfl) (by exact rfl) ?_
        | refine s_assign (by exact rfl) (by exact rfl) ?_
        | refine s_lss (by exact rfl) (by exact rfl) (by exact rfl) ?_
        | refine s_idx (by exact rfl) (by exact rfl) (by exact rfl) (by assumption) (by first | assumption | omega) ?_
        | refine s_ldk_ro (by exact rfl) (by exact rfl) (by assumption) (by decide) (by assumption) (by exact rfl) ?_
        | refine o_alloc (by exact rfl) (fun b => ?_)
        | refine c_block ?_
        | refine c_skip ?_
        | (refine c_cond_p (by exact rfl) (fun h => ?_) (fun h => ?_) <;> try (exfalso; omega))
      refine o_stk_box (i := 0) (us := eV e) (by exact rfl) (by exact rfl) (by exact rfl) (by exact rfl) (by exact rfl) (by simp [eV, Value.oneCell']) (by simp [Value.cells]) ?_
      repeat' first
        | refine k_then ?_
        | refine c_seq ?_
        | refine c_region ?_
        | refine s_nil ?_
        | refine s_fa (by exact rfl) (by exact rfl) ?_
        | refine s_ld_box (by exact rfl) (by exact rfl) (by exact .tail _ (.head _)) (by exact rfl) ?_
        | refine s_ldk_box (by exact rfl) (by exact rfl) (by exact .head _) (by exact rfl) (by exact rfl) ?_
      refine s_call (by exact rfl) (by exact rfl) (fun w hs => alone_ok n e w) ?_
      repeat' first
        | refine k_then ?_
        | refine c_seq ?_
        | refine c_region ?_
        | refine s_nil ?_
        | refine s_move (by exact rfl) (by exact rfl) ?_
        | refine s_assign (by exact rfl) (by exact rfl) ?_
        | refine s_fa (by exact rfl) (by exact rfl) ?_
        | refine s_ld_box (by exact rfl) (by exact rfl) (by exact .head _) (by exact rfl) ?_
        | refine s_gtr (by exact rfl) (by exact rfl) (by exact rfl) ?_
        | refine s_eql (by exact rfl) (by exact rfl) (by exact rfl) ?_
        | refine s_neq (by exact rfl) (by exact rfl) (by exact rfl) ?_
        | refine s_add (by exact rfl) (by exact rfl) (by exact rfl) (by omega) ?_
        | refine c_block ?_
        | refine c_skip ?_
        | refine c_exit ?_
        | refine c_ret ?_
        | refine k_then_ret ?_
        | refine k_then_exit ?_
        | refine k_blk ?_
        | refine k_blk_ret ?_
        | refine k_blk_eq ?_
        | refine k_blk_ne (by exact rfl) ?_
        | (refine c_cond_p (by exact rfl) (fun h => ?_) (fun h => ?_) <;> try (exfalso; omega))
      · refine ret1 [] rfl rfl rfl ⟨congrArg (Value.int .i64) ?_, rfl⟩
        rw [rightK, if_pos h0, ← hsc, if_neg h]
      · refine ret1 [] rfl rfl rfl ⟨congrArg (Value.int .i64) ?_, rfl⟩
        rw [rightK, if_pos h0, ← hsc, if_pos (by omega), if_pos h]
      · refine c_round (k + 1) [1] (by exact rfl) (by exact ⟨rfl, rfl, rfl, rfl, trivial⟩) ⟨by omega, ?_⟩ (by omega)
        obtain rfl : k = 0 := by omega
        rw [← hsc, if_pos (by omega), if_neg (by omega)]
        simp only [prev, Nat.zero_add, Nat.one_ne_zero, if_false, Nat.sub_self, he, if_true]
      · obtain ⟨q, hq⟩ : ∃ q, es[k - 1]? = some q := ⟨_, List.getElem?_eq_getElem (by omega)⟩
        have hQ : ((esV es).drop (((k : Int) - 1).toNat * 3)).take 3 = eV q := by
          rw [show ((k : Int) - 1).toNat = k - 1 from by omega]
          exact esV_at hq
        have hpr : prev es k = some q := by rw [prev, if_neg (by omega), hq]
        rw [hpr] at hsc
        refine p_begin0 [(0, true), (1, true), (2, true), (3, true), (4, true), (5, true), (6, true), (7, false)] (by kernel_rfl) ?_
        repeat' first
          | (refine p_at (by exact rfl) ?_
             first
              | refine t_move (by exact rfl) (by exact rfl) (by exact fun _ h => h) ?_
              | refine t_fa (by exact rfl) (by exact rfl) (by exact fun _ h => h) ?_
              | refine t_ld_box (by exact rfl) (by exact rfl) (by exact .tail _ (.head _)) (by exact rfl) (by exact fun _ h => h) ?_
              | refine t_sub (by exact rfl) (by exact rfl) (by exact rfl) (by omega) (by exact fun _ h => h) ?_
              | refine t_idxi (by exact rfl) (by exact rfl) (by exact rfl) (by assumption) (by first | assumption | omega) (by exact fun _ h => h) ?_
              | refine t_ldk_box (by exact rfl) (by exact rfl) (by exact .head _) (by exact rfl) (by exact rfl) (by exact fun _ h => h) ?_
              | refine t_ldk_ro (by exact rfl) (by exact rfl) (by assumption) (by decide) (by assumption) (by exact rfl) (by exact fun _ h => h) ?_)
        refine p_call (gd := none) (by exact rfl) rfl (by exact rfl) (fun w hs => order_ok q e w) (by exact fun _ h => h) ?_
        repeat' first
          | refine p_nil ?_
        repeat' first
          | refine k_then ?_
          | refine c_seq ?_
          | refine c_region ?_
          | refine s_nil ?_
          | refine s_move (by exact rfl) (by exact rfl) ?_
          | refine s_assign (by exact rfl) (by exact rfl) ?_
          | refine s_eql (by exact rfl) (by exact rfl) (by exact rfl) ?_
          | refine s_add (by exact rfl) (by exact rfl) (by exact rfl) (by omega) ?_
          | refine c_block ?_
          | refine c_skip ?_
          | refine c_ret ?_
          | refine k_then_ret ?_
          | refine k_blk ?_
          | refine k_blk_ret ?_
          | (refine c_cond_p (by exact rfl) (fun h => ?_) (fun h => ?_) <;> try (exfalso; omega))
        · refine ret1 [] rfl rfl rfl ⟨congrArg (Value.int .i64) ?_, rfl⟩
          rw [rightK, if_pos h0, ← hsc, if_pos (by omega), if_neg (by omega)]
          simp only [if_pos h]
        · refine ret1 [] rfl rfl rfl ⟨congrArg (Value.int .i64) ?_, rfl⟩
          rw [rightK, if_pos h0, ← hsc, if_pos (by omega), if_neg (by omega)]
          simp only [if_pos h]
          split <;> first | omega | rfl
        · refine c_round (k + 1) [1] (by exact rfl) (by exact ⟨rfl, rfl, rfl, rfl, trivial⟩) ⟨by omega, ?_⟩ (by omega)
          rw [← hsc, if_pos (by omega), if_neg (by omega)]
          simp only [prev, Nat.add_sub_cancel, he]
          rw [if_neg (by omega), if_neg (by omega), if_neg (by omega)]
    · repeat' first
        | refine k_then ?_
        | refine c_seq ?_
        | refine c_region ?_
        | refine s_nil ?_
        | refine s_assign (by exact rfl) (by exact rfl) ?_
        | refine s_lss (by exact rfl) (by exact rfl) (by exact rfl) ?_
        | refine c_exit ?_
        | refine c_ret ?_
        | refine k_then_exit ?_
        | refine k_blk_eq ?_
        | (refine c_cond_p (by exact rfl) (fun h => ?_) (fun h => ?_) <;> try (exfalso; omega))
      refine ret1 [] rfl rfl rfl ⟨congrArg (Value.int .i64) ?_, rfl⟩
      rw [rightK, if_pos h0, ← hsc, List.drop_eq_nil_of_le (by omega)]
      simp [scan]
end Go.Proofs.Ytkekpgkacjpjnaa
