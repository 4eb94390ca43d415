/- Of BakerSet: part 4: what the walks rest on, contracts of functions and plain lemmas; no condition but those that each states. -/
import Derived.Test.YtpajjnkmaebhcabGreatBs3
import Derived.Laws.Cover3
set_option linter.unusedVariables false
set_option linter.unusedSimpArgs false
section
set_option linter.unusedVariables false
namespace Go.Proofs.YtpajjnkmaebhcabGreat
open Go Go.RowKit Go.Sl Fil
set_option maxRecDepth 100000
set_option maxHeartbeats 8000000
set_option linter.unusedVariables false
set_option linter.unusedSimpArgs false
attribute [local irreducible] Code.wp wpList bodyPost wpQuiet Exit.then Exit.inBlock Post wpAnyH wpOp
/-- what Make answers -/
structure MakeP (n : Int) (l : List E) (k : Int) (m : List E) : Prop where
  size : sizesK n l.length ≠ 0 → k = sizesK n l.length ∧ m = []
  alone : sizesK n l.length = 0 → ∀ (i : Nat) e, l[i]? = some e → aloneK n e.1 e.2.1 e.2.2 ≠ 0 → (∀ f ∈ l.take i, aloneK n f.1 f.2.1 f.2.2 = 0) → k = aloneK n e.1 e.2.1 e.2.2 ∧ m = []
  good : sizesK n l.length = 0 → (∀ e ∈ l, aloneK n e.1 e.2.1 e.2.2 = 0) → ∃ l' : List E, l'.Perm (l.map swapE) ∧ l'.Pairwise (fun a b => ¬ orderK b a < 0) ∧ ((k = 7 ∧ m = [] ∧ ∃ (i : Nat) (a b : E), l'[i]? = some a ∧ l'[i + 1]? = some b ∧ orderK a b = 0) ∨ (k = 0 ∧ m = l' ∧ ∀ (i : Nat) (a b : E), l'[i]? = some a → l'[i + 1]? = some b → orderK a b ≠ 0))
theorem CloneE_ok (v : Value) (l : List E) (w : World) (hs : Shp v l.length) (hr : RO w No v (esV l)) (hl : l.length ≤ 4194304) :
    Calls Tryz.prog 75 #[v] w (Post w No fun r L' => L' = [rowHP r 37 3 l.length (esV l)]) := by
  refine enter0 (vs := [_]) Tryz.func75 rfl Tryz.ntmps75 rfl ?_
  repeat' first
    | refine k_then ?_ | refine c_seq ?_ | refine c_region ?_ | refine s_nil ?_ | refine s_move (by exact rfl) (by exact rfl) ?_ | refine s_assign (by exact rfl) (by exact rfl) ?_ | fail
  refine s_eqnil (by exact rfl) (by exact rfl) hs ?_
  have hnn : (v = .slice none 0 0 ∧ l.length = 0) ∨ ∃ a0 m0 c0, v = .slice (some a0) m0 c0 := by
    rcases hs.2 with h | ⟨g, off, cap, h1, _⟩ | ⟨⟨a0, h1⟩, _⟩
    · exact .inl h
    · exact .inr ⟨_, _, _, h1⟩
    · exact .inr ⟨_, _, _, h1⟩
  rcases hnn with ⟨h1, h2⟩ | ⟨a0, m0, c0, h1⟩
  · rw [show nilB v = true by rw [h1]; rfl]
    obtain rfl : l = [] := List.eq_nil_of_length_eq_zero h2
    repeat' first
      | refine k_then ?_ | refine c_seq ?_ | refine c_region ?_ | refine s_nil ?_ | refine s_assign (by exact rfl) (by exact rfl) ?_ | refine c_ret ?_ | refine k_then_ret ?_ | refine c_cond_t (by exact rfl) ?_ | fail
    refine c_nil 37 3 ?_
    refine ret1 [0] rfl rfl rfl rfl
  · rw [show nilB v = false by rw [h1]; rfl]
    repeat' first
      | refine k_then ?_ | refine c_seq ?_ | refine c_region ?_ | refine s_nil ?_ | refine c_skip ?_ | refine c_cond_f (by exact rfl) ?_ | fail
    refine o_mk0 (by exact rfl) fun v0 hv0 => ?_
    repeat' first
      | refine s_move (by exact rfl) (by exact rfl) ?_ | fail
    refine o_append_ro (bytes := 24) (i := 0) (by exact rfl) (by exact rfl) (by exact rfl) (by exact rfl) hr hs (by rw [esV_length]) (esV_one _) (by omega) fun v1 hv1 => ?_
    repeat' first
      | refine k_then ?_ | refine s_nil ?_ | refine s_assign (by exact rfl) (by exact rfl) ?_ | refine c_ret ?_ | fail
    refine ret1 [0] rfl rfl rfl ?_
    rw [Nat.zero_add]; rfl
theorem esV_set2 {l : List E} {i : Nat} {e : E} (h : l[i]? = some e) (a b : Int) : ((esV l).set (i * 3 + 0) (.int .i64 a)).set (i * 3 + 1) (.int .i64 b) = esV (l.set i (a, b, e.2.2)) := by
  induction l generalizing i with
  | nil => simp at h
  | cons x l ih =>
    cases i with
    | zero =>
      obtain rfl : x = e := by simpa using h
      rfl
    | succ i =>
      have := ih (i := i) (by simpa using h)
      rw [show (i + 1) * 3 + 0 = (i * 3 + 0) + 3 by omega, show (i + 1) * 3 + 1 = (i * 3 + 1) + 3 by omega]
      show eV x ++ (((esV l).set (i * 3 + 0) (.int .i64 a)).set (i * 3 + 1) (.int .i64 b)) = eV x ++ esV (l.set i (a, b, e.2.2))
      rw [this]
theorem Make_ok (n : Int) (vl : Value) (l : List E) (w : World) (hs : Shp vl l.length) (hr : RO w No vl (esV l)) (hm : l.length < 4611686018427387904) :
    Calls Tryz.prog 44 #[.int .i64 n, vl] w (Post w No fun r L' => ∃ (vo : Value) (k : Int) (m : List E), r = .tuple #[.agg #[.int .i64 (if k = 0 then n else 0), vo], .int .i64 k] ∧ L' = [rowHP vo 37 3 m.length (esV m)] ∧ MakeP n l k m) := by
  refine enter0 (vs := [_, _]) Tryz.func44 rfl Tryz.ntmps44 rfl ?_
  repeat' first
    | refine k_then ?_ | refine c_seq ?_ | refine c_region ?_ | refine s_nil ?_ | refine s_move (by exact rfl) (by exact rfl) ?_ | refine s_assign (by exact rfl) (by exact rfl) ?_ | refine s_len (by exact rfl) (by exact rfl) (by assumption) ?_ | refine o_alloc (by exact rfl) (fun b => ?_) | fail
  revert b; intro b4
  refine s_call (by exact rfl) (by exact rfl) (fun w hs => sizes_ok _ _ w) ?_
  by_cases h0 : sizesK n l.length = 0
  case neg =>
    repeat' first
      | refine k_then ?_ | refine c_seq ?_ | refine c_region ?_ | refine s_nil ?_ | refine s_move (by exact rfl) (by exact rfl) ?_ | refine s_assign (by exact rfl) (by exact rfl) ?_ | refine s_neq (by exact rfl) (by exact rfl) (by exact rfl) ?_ | (refine c_cond_p (by exact rfl) (fun h => ?_) (fun h => ?_) <;> try (exfalso; omega)) | fail
    refine o_build (cs := [.int .i64 0, .slice none 0 0]) [] (by exact rfl) (by exact rfl) (by simp [Value.cells]) (by exact rfl) ?_
    repeat' first
      | refine s_move (by exact rfl) (by exact rfl) ?_ | fail
    refine o_stk_box (i := 0) (us := [.int .i64 0, .slice none 0 0]) (by exact rfl) (by exact rfl) (by exact rfl) (by exact rfl) (by exact rfl) (by simp [Value.oneCell']) (by simp [Value.cells]) ?_
    repeat' first
      | refine k_then ?_ | refine s_nil ?_ | refine s_assign (by exact rfl) (by exact rfl) ?_ | refine c_ret ?_ | refine k_then_ret ?_ | fail
    refine c_nil 37 3 ?_
    refine retL [.cell 4 24, .tmp 5] [.agg #[.int .i64 0, .slice none 0 0], .int .i64 (sizesK n l.length)] [0] rfl ⟨res_cellk (tb := 24) (cs := [.int .i64 0, .slice none 0 0]) (k := 2) (off := 0) (us := [.int .i64 0, .slice none 0 0]) rfl (.tail _ (.head _)) rfl (by simp [Value.cells, putL]), res_tmp rfl, trivial⟩ (by exact rfl) ⟨_, sizesK n l.length, [], by rw [if_neg h0]; rfl, rfl, fun _ => ⟨rfl, rfl⟩, fun h => absurd h h0, fun h => absurd h h0⟩
  have hll : l.length ≤ 4194304 := by
    unfold sizesK at h0
    split at h0
    · omega
    · split at h0 <;> omega
  repeat' first
    | refine k_then ?_ | refine c_seq ?_ | refine c_region ?_ | refine s_nil ?_ | refine s_move (by exact rfl) (by exact rfl) ?_ | refine s_assign (by exact rfl) (by exact rfl) ?_ | refine s_neq (by exact rfl) (by exact rfl) (by exact rfl) ?_ | refine c_skip ?_ | (refine c_cond_p (by exact rfl) (fun h => ?_) (fun h => ?_) <;> try (exfalso; omega)) | fail
  refine o_call (by exact rfl) (by exact rfl) (fun w h => CloneE_ok vl l w hs (ro_old h hr) hll) ?_
  rintro vo _ rfl
  refine know_row (v := vo) (.head _) fun hvo _ => ?_
  repeat' first
    | refine k_then ?_ | refine c_seq ?_ | refine c_region ?_ | refine s_nil ?_ | refine s_move (by exact rfl) (by exact rfl) ?_ | refine s_assign (by exact rfl) (by exact rfl) ?_ | refine s_len (by exact rfl) (by exact rfl) (by assumption) ?_ | refine c_block ?_ | fail
  refine c_loop (fun k : Nat => k ≤ l.length ∧ ∀ f ∈ l.take k, aloneK n f.1 f.2.1 f.2.2 = 0) (fun k => [(0, .int .i64 n), (4, .pointer (some ⟨b4, 0, none⟩)), (5, .int .i64 0), (7, vo), (22, vo), (23, .int .i64 (l.length : Int)), (24, .int .i64 (k : Int))])
    (fun k => [rowHP vo 37 3 l.length (esV ((l.take k).map swapE ++ l.drop k)), boxHP b4 24 [.int .i64 0, .slice none 0 0]]) (fun k => l.length - k) 0 [0, 0] ⟨Nat.zero_le _, by simp⟩ (by exact rfl) ⟨rfl, rfl, rfl, rfl, rfl, rfl, rfl, trivial⟩ ?_
  rintro k ⟨hk, hal⟩
  by_cases hlt : k < l.length
  · obtain ⟨e, he⟩ : ∃ e, l[k]? = some e := ⟨_, List.getElem?_eq_getElem hlt⟩
    have hdk : l.drop k = e :: l.drop (k + 1) := by
      have h3 : l[k] = e := (List.getElem?_eq_some_iff.1 he).2
      rw [List.drop_eq_getElem_cons hlt, h3]
    have htk : l.take (k + 1) = l.take k ++ [e] := by rw [List.take_add_one, he]; rfl
    have hat : ((l.take k).map swapE ++ l.drop k)[k]? = some e := by
      rw [List.getElem?_append_right (by simp; omega), hdk]
      simp [show k - min k l.length = 0 by omega]
    have hE := esV_at hat
    repeat' first
      | refine k_then ?_ | refine c_seq ?_ | refine c_region ?_ | refine s_nil ?_ | refine s_move (by exact rfl) (by exact rfl) ?_ | refine s_assign (by exact rfl) (by exact rfl) ?_ | refine s_lss (by exact rfl) (by exact rfl) (by exact rfl) ?_ | refine s_idx (by exact rfl) (by exact rfl) (by exact rfl) (by assumption) (by first | assumption | omega) ?_ | refine s_ldk_row (by exact rfl) (by exact rfl) (by exact .head _) (by decide) (by assumption) (by exact rfl) ?_ | refine o_alloc (by exact rfl) (fun b => ?_) | refine c_block ?_ | refine c_skip ?_ | (refine c_cond_p (by exact rfl) (fun h => ?_) (fun h => ?_) <;> try (exfalso; omega)) | fail
    refine o_stk_box (i := 0) (us := eV e) (by exact rfl) (by exact rfl) (by exact rfl) (by exact rfl) (by exact rfl) (by simp [eV, Value.oneCell']) (by simp [Value.cells]) ?_
    repeat' first
      | refine k_then ?_ | refine c_seq ?_ | refine c_region ?_ | refine s_nil ?_ | refine s_move (by exact rfl) (by exact rfl) ?_ | refine s_ldk_box (by exact rfl) (by exact rfl) (by exact .head _) (by exact rfl) (by exact rfl) ?_ | fail
    refine s_call (by exact rfl) (by exact rfl) (fun w hs => alone_ok n e w) ?_
    by_cases ha : aloneK n e.1 e.2.1 e.2.2 = 0
    case neg =>
      repeat' first
        | refine k_then ?_ | refine c_seq ?_ | refine c_region ?_ | refine s_nil ?_ | refine s_move (by exact rfl) (by exact rfl) ?_ | refine s_assign (by exact rfl) (by exact rfl) ?_ | refine s_neq (by exact rfl) (by exact rfl) (by exact rfl) ?_ | (refine c_cond_p (by exact rfl) (fun h => ?_) (fun h => ?_) <;> try (exfalso; omega)) | fail
      refine o_build (cs := [.int .i64 0, .slice none 0 0]) [] (by exact rfl) (by exact rfl) (by simp [Value.cells]) (by exact rfl) ?_
      repeat' first
        | refine s_move (by exact rfl) (by exact rfl) ?_ | fail
      refine o_stk_box (i := 2) (us := [.int .i64 0, .slice none 0 0]) (by exact rfl) (by exact rfl) (by exact rfl) (by exact rfl) (by exact rfl) (by simp [Value.oneCell']) (by simp [Value.cells]) ?_
      repeat' first
        | refine k_then ?_ | refine s_nil ?_ | refine s_assign (by exact rfl) (by exact rfl) ?_ | refine c_ret ?_ | refine k_then_ret ?_ | refine k_blk_ret ?_ | fail
      refine c_nil 37 3 ?_
      refine retL [.cell 4 24, .tmp 5] [.agg #[.int .i64 0, .slice none 0 0], .int .i64 (aloneK n e.1 e.2.1 e.2.2)] [0] rfl ⟨res_cellk (tb := 24) (cs := [.int .i64 0, .slice none 0 0]) (k := 2) (off := 0) (us := [.int .i64 0, .slice none 0 0]) rfl (.tail _ (.tail _ (.tail _ (.head _)))) rfl (by simp [putL]), res_tmp rfl, trivial⟩ (by exact rfl) ⟨_, aloneK n e.1 e.2.1 e.2.2, [], by rw [if_neg ha]; rfl, rfl, fun h => absurd h0 h, fun _ i f hf1 hf2 hf3 => ?_, fun _ h => absurd (h e (List.mem_of_getElem? he)) ha⟩
      have : i = k := by
        rcases Nat.lt_trichotomy i k with h | h | h
        · exact absurd (hal f (List.mem_take_iff_getElem.2 ⟨i, by have := (List.getElem?_eq_some_iff.1 hf1).1; omega, (List.getElem?_eq_some_iff.1 hf1).2⟩)) hf2
        · exact h
        · exact absurd (hf3 e (List.mem_take_iff_getElem.2 ⟨k, by omega, (List.getElem?_eq_some_iff.1 he).2⟩)) ha
      subst this
      rw [he] at hf1
      obtain rfl := Option.some.inj hf1
      exact ⟨rfl, rfl⟩
    rw [ha]
    have hsw : swapE e = (min e.1 e.2.1, max e.1 e.2.1, e.2.2) := by
      unfold swapE
      split
      · rw [Int.min_eq_right (by omega), Int.max_eq_left (by omega)]
      · rw [Int.min_eq_left (by omega), Int.max_eq_right (by omega)]
    have hset := esV_set2 hat (min e.1 e.2.1) (max e.1 e.2.1)
    have hnx : ((l.take k).map swapE ++ l.drop k).set k (min e.1 e.2.1, max e.1 e.2.1, e.2.2) = (l.take (k + 1)).map swapE ++ l.drop (k + 1) := by
      rw [← hsw, htk, hdk, List.set_append_right _ _ (by simp; omega)]
      simp [show k - min k l.length = 0 by omega]
    repeat' first
      | refine k_then ?_ | refine c_seq ?_ | refine c_region ?_ | refine s_nil ?_ | refine s_move (by exact rfl) (by exact rfl) ?_ | refine s_assign (by exact rfl) (by exact rfl) ?_ | refine s_neq (by exact rfl) (by exact rfl) (by exact rfl) ?_ | refine c_skip ?_ | (refine c_cond_p (by exact rfl) (fun h => ?_) (fun h => ?_) <;> try (exfalso; omega)) | fail
    refine c_pick [1, 0, 0] (by exact rfl) ?_
    refine p_begin [(0, true), (1, true), (2, true), (3, true), (4, true), (5, true), (6, true), (7, true), (8, true), (9, true), (10, true), (11, true), (12, true), (13, true), (14, true), (15, true), (16, false), (17, true), (18, true), (19, false)] [boxHP b 37 (eV e), boxHP b4 24 [.int .i64 0, .slice none 0 0]] (by kernel_rfl) ?_
    repeat' first
      | (refine p_at (by exact rfl) ?_
         first
          | refine t_move (by exact rfl) (by exact rfl) (by exact fun _ h => h.tl) ?_ | refine t_fa (by exact rfl) (by exact rfl) (by exact fun _ h => h.tl) ?_ | refine t_ld_box (by exact rfl) (by exact rfl) (by exact .head _) (by exact rfl) (by exact fun _ h => h.tl) ?_ | refine t_min (by exact rfl) (by exact rfl) (by exact rfl) (by exact fun _ h => h.tl) ?_ | refine t_max (by exact rfl) (by exact rfl) (by exact rfl) (by exact fun _ h => h.tl) ?_ | refine t_idx (by exact rfl) (by exact rfl) (by exact rfl) (by assumption) (by first | assumption | omega) (by exact fun _ h => h.tl) ?_ | refine t_fap (by exact rfl) (by exact rfl) (by assumption) (by omega) (by exact fun _ h => h.tl) ?_ | fail)
      | fail
    refine p_st_row (j := 0) (by exact rfl) (by exact rfl) (by exact rfl) (by exact rfl) rfl (by omega) (fun _ h => h.tl) ?_
    repeat' first
      | (refine p_at (by exact rfl) ?_
         first
          | refine t_idx (by exact rfl) (by exact rfl) (by exact rfl) (by assumption) (by first | assumption | omega) (by exact fun _ h => h.tl) ?_ | refine t_fap (by exact rfl) (by exact rfl) (by assumption) (by omega) (by exact fun _ h => h.tl) ?_ | fail)
      | fail
    refine p_st_row (j := 0) (by exact rfl) (by exact rfl) (by exact rfl) (by exact rfl) rfl (by omega) (fun _ h => h.tl) ?_
    repeat' first
      | refine p_nil ?_ | fail
    repeat' first
      | refine k_then ?_ | refine c_region ?_ | refine s_nil ?_ | refine s_move (by exact rfl) (by exact rfl) ?_ | refine s_add (by exact rfl) (by exact rfl) (by exact rfl) (by omega) ?_ | refine k_blk ?_ | fail
    refine c_round (k + 1) [0, 1] (by rw [← hnx, ← hset]; exact rfl) ⟨rfl, rfl, rfl, rfl, rfl, rfl, rfl, trivial⟩ ⟨by omega, fun f hf => ?_⟩ (by omega)
    rw [htk] at hf
    rcases List.mem_append.1 hf with hf | hf
    · exact hal f hf
    · obtain rfl : f = e := by simpa using hf
      exact ha
  obtain rfl : k = l.length := by omega
  rw [List.take_length, List.drop_length, List.append_nil] at *
  have hml : (l.map swapE).length = l.length := List.length_map ..
  repeat' first
    | refine k_then ?_ | refine c_seq ?_ | refine c_region ?_ | refine s_nil ?_ | refine s_move (by exact rfl) (by exact rfl) ?_ | refine s_lss (by exact rfl) (by exact rfl) (by exact rfl) ?_ | refine c_exit ?_ | refine k_then_exit ?_ | refine k_blk_eq ?_ | (refine c_cond_p (by exact rfl) (fun h => ?_) (fun h => ?_) <;> try (exfalso; omega)) | fail
  rw [← hml]
  refine s_lend [rowHP vo 37 3 (l.map swapE).length (esV (l.map swapE))] _ (by exact rfl) (by exact rfl) (by exact rfl) (fun w S h => edgeSort_row (sats_mem h.own (.head _)) (by omega)) ?_
  rintro _ _ ⟨rfl, l', hperm, hpw, rfl⟩
  have hl' : l'.length = l.length := by rw [hperm.length_eq, hml]
  rw [hml]
  repeat' first
    | refine k_then ?_ | refine c_seq ?_ | refine c_region ?_ | refine s_nil ?_ | refine s_move (by exact rfl) (by exact rfl) ?_ | refine s_len (by exact rfl) (by exact rfl) (by assumption) ?_ | refine c_block ?_ | fail
  refine c_loop (fun k : Nat => k ≤ l.length ∧ ∀ (i : Nat) (a b : E), i + 1 < k → l'[i]? = some a → l'[i + 1]? = some b → orderK a b ≠ 0) (fun k => [(0, .int .i64 n), (4, .pointer (some ⟨b4, 0, none⟩)), (5, .int .i64 0), (7, vo), (58, .int .i64 (l.length : Int)), (59, .int .i64 (k : Int))])
    (fun k => [rowHP vo 37 3 l.length (esV l'), boxHP b4 24 [.int .i64 0, .slice none 0 0]]) (fun k => l.length - k) 0 [0, 0] ⟨Nat.zero_le _, fun i a b h => by omega⟩ (by exact rfl) ⟨rfl, rfl, rfl, rfl, rfl, rfl, trivial⟩ ?_
  rintro k ⟨hk2, hq⟩
  by_cases hlt2 : k < l.length
  · obtain ⟨e, he⟩ : ∃ e, l'[k]? = some e := ⟨_, List.getElem?_eq_getElem (by omega)⟩
    have hE := esV_at he
    by_cases hk0 : k = 0
    · subst hk0
      repeat' first
        | refine k_then ?_ | refine c_seq ?_ | refine c_region ?_ | refine s_nil ?_ | refine s_move (by exact rfl) (by exact rfl) ?_ | refine s_assign (by exact rfl) (by exact rfl) ?_ | refine s_lss (by exact rfl) (by exact rfl) (by exact rfl) ?_ | refine c_block ?_ | refine c_skip ?_ | (refine c_cond_p (by exact rfl) (fun h => ?_) (fun h => ?_) <;> try (exfalso; omega)) | fail
      refine p_begin0 [(0, true), (1, true), (2, true), (3, true), (4, true), (5, true), (6, true), (7, true), (8, true), (9, true), (10, true), (11, true), (12, false), (13, true), (14, true)] (by kernel_rfl) ?_
      repeat' first
        | refine p_nil ?_
        | (refine p_at (by exact rfl) ?_
           first
            | refine t_move (by exact rfl) (by exact rfl) (by exact fun _ h => h) ?_ | refine t_gtr (by exact rfl) (by exact rfl) (by exact rfl) (by exact fun _ h => h) ?_ | refine t_pick_f (by exact rfl) (by exact rfl) (by exact rfl) (by exact fun _ h => h) ?_ | (refine t_case (by exact rfl) (by exact rfl) (fun h => ?_) (fun h => ?_) <;> try (exfalso; omega)) | refine t_skip (by exact rfl) (by exact rfl) (by exact rfl) (by exact rfl) (by exact fun _ h => h) ?_ | refine t_skipl (by exact rfl) (by exact rfl) (by exact rfl) (by exact rfl) (by exact fun _ h => h) ?_ | fail)
        | fail
      repeat' first
        | refine k_then ?_ | refine c_region ?_ | refine s_nil ?_ | refine s_move (by exact rfl) (by exact rfl) ?_ | refine s_add (by exact rfl) (by exact rfl) (by exact rfl) (by omega) ?_ | refine c_skip ?_ | refine k_blk ?_ | refine c_cond_f (by exact rfl) ?_ | fail
      refine c_round 1 [0, 0] (by exact rfl) ⟨rfl, rfl, rfl, rfl, rfl, rfl, trivial⟩ ⟨by omega, fun i a b h => by omega⟩ (by omega)
    · obtain ⟨q, hqq⟩ : ∃ q, l'[k - 1]? = some q := ⟨_, List.getElem?_eq_getElem (by omega)⟩
      have hQ : ((esV l').drop (((k : Int) - 1).toNat * 3)).take 3 = eV q := by
        rw [show ((k : Int) - 1).toNat = k - 1 from by omega]
        exact esV_at hqq
      repeat' first
        | refine k_then ?_ | refine c_seq ?_ | refine c_region ?_ | refine s_nil ?_ | refine s_move (by exact rfl) (by exact rfl) ?_ | refine s_assign (by exact rfl) (by exact rfl) ?_ | refine s_lss (by exact rfl) (by exact rfl) (by exact rfl) ?_ | refine c_block ?_ | refine c_skip ?_ | (refine c_cond_p (by exact rfl) (fun h => ?_) (fun h => ?_) <;> try (exfalso; omega)) | fail
      refine p_begin0 [(0, true), (1, true), (2, true), (3, true), (4, true), (5, true), (6, true), (7, true), (8, true), (9, true), (10, true), (11, true), (12, false), (13, true), (14, true)] (by kernel_rfl) ?_
      repeat' first
        | (refine p_at (by exact rfl) ?_
           first
            | refine t_move (by exact rfl) (by exact rfl) (by exact fun _ h => h) ?_ | refine t_gtr (by exact rfl) (by exact rfl) (by exact rfl) (by exact fun _ h => h) ?_ | refine tw_move (by exact rfl) (by exact rfl) (by exact rfl) (by exact rfl) (by exact fun _ h => h) ?_ | refine tw_sub (by exact rfl) (by exact rfl) (by exact rfl) (by exact rfl) (by exact rfl) (by omega) (by exact fun _ h => h) ?_ | refine tw_idx (by exact rfl) (by exact rfl) (by exact rfl) (by exact rfl) (by exact rfl) (by assumption) (by first | assumption | omega) (by exact fun _ h => h) ?_ | refine tw_idxi (by exact rfl) (by exact rfl) (by exact rfl) (by exact rfl) (by exact rfl) (by assumption) (by first | assumption | omega) (by exact fun _ h => h) ?_ | refine tw_ldk_row (by exact rfl) (by exact rfl) (by exact rfl) (by exact rfl) (by exact .head _) (by decide) (by assumption) (by exact rfl) (by exact fun _ h => h) ?_ | (refine t_case (by exact rfl) (by exact rfl) (fun h => ?_) (fun h => ?_) <;> try (exfalso; omega)) | fail)
        | fail
      refine p_callw (by exact rfl) (by exact rfl) (by exact rfl) rfl (by exact rfl) (fun w h => order_ok q e w) (by exact fun _ h => h) ?_
      repeat' first
        | refine p_nil ?_
        | (refine p_at (by exact rfl) ?_
           first
            | refine t_pick_t (by exact rfl) (by exact rfl) (by exact rfl) (by exact fun _ h => h) ?_ | refine tw_eql (by exact rfl) (by exact rfl) (by exact rfl) (by exact rfl) (by exact rfl) (by exact fun _ h => h) ?_ | fail)
        | fail
      repeat' first
        | refine k_then ?_ | refine c_seq ?_ | refine c_region ?_ | refine s_nil ?_ | refine s_move (by exact rfl) (by exact rfl) ?_ | refine s_add (by exact rfl) (by exact rfl) (by exact rfl) (by omega) ?_ | refine c_skip ?_ | refine k_blk ?_ | (refine c_cond_p (by exact rfl) (fun h => ?_) (fun h => ?_) <;> try (exfalso; omega)) | fail
      · refine o_build (cs := [.int .i64 0, .slice none 0 0]) [] (by exact rfl) (by exact rfl) (by simp [Value.cells]) (by exact rfl) ?_
        skip
        refine o_stk_box (i := 1) (us := [.int .i64 0, .slice none 0 0]) (by exact rfl) (by exact rfl) (by exact rfl) (by exact rfl) (by exact rfl) (by simp [Value.oneCell']) (by simp [Value.cells]) ?_
        repeat' first
          | refine k_then ?_ | refine s_nil ?_ | refine s_assign (by exact rfl) (by exact rfl) ?_ | refine c_ret ?_ | refine k_then_ret ?_ | refine k_blk_ret ?_ | fail
        refine c_nil 37 3 ?_
        refine retL [.cell 4 24, .tmp 5] [.agg #[.int .i64 0, .slice none 0 0], .int .i64 7] [0] rfl ⟨res_cellk (tb := 24) (cs := [.int .i64 0, .slice none 0 0]) (k := 2) (off := 0) (us := [.int .i64 0, .slice none 0 0]) rfl (.tail _ (.tail _ (.head _))) rfl (by simp [putL]), res_tmp rfl, trivial⟩ (by exact rfl) ⟨_, 7, [], rfl, rfl, fun h => absurd h0 h, fun _ i f hf1 hf2 hf3 => absurd (hal f (List.mem_of_getElem? hf1)) hf2, fun _ _ => ⟨l', hperm, hpw, .inl ⟨rfl, rfl, k - 1, q, e, hqq, by rw [show k - 1 + 1 = k by omega]; exact he, h⟩⟩⟩
      · refine c_round (k + 1) [0, 0] (by exact rfl) ⟨rfl, rfl, rfl, rfl, rfl, rfl, trivial⟩ ⟨by omega, fun i a b hi ha hb => ?_⟩ (by omega)
        by_cases hik : i + 1 < k
        · exact hq i a b hik ha hb
        · obtain rfl : i = k - 1 := by omega
          rw [show k - 1 + 1 = k by omega] at hb
          rw [hqq] at ha
          rw [he] at hb
          obtain rfl := Option.some.inj ha
          obtain rfl := Option.some.inj hb
          exact h
  · refine know_row (v := vo) (.head _) fun hvo2 _ => ?_
    repeat' first
      | refine k_then ?_ | refine c_seq ?_ | refine c_region ?_ | refine s_nil ?_ | refine s_move (by exact rfl) (by exact rfl) ?_ | refine s_lss (by exact rfl) (by exact rfl) (by exact rfl) ?_ | refine c_exit ?_ | refine k_then_exit ?_ | refine k_blk_eq ?_ | (refine c_cond_p (by exact rfl) (fun h => ?_) (fun h => ?_) <;> try (exfalso; omega)) | fail
    refine o_build (cs := [.int .i64 n, vo]) [(0, .int .i64 n, [.int .i64 n]), (1, vo, [vo])] (by exact rfl) (by exact rfl) (by
      intro x hx
      simp only [List.mem_cons, List.not_mem_nil, or_false] at hx
      rcases hx with rfl | rfl
      · rfl
      · exact one_cells hvo.one) (by exact rfl) ?_
    skip
    refine o_stk_box (i := 1) (us := [.int .i64 n, vo]) (by exact rfl) (by exact rfl) (by exact rfl) (by exact rfl) (by exact rfl) (by
      intro u hu
      simp only [List.mem_cons, List.not_mem_nil, or_false] at hu
      rcases hu with rfl | rfl
      · rfl
      · exact hvo.one) (by simp [Value.cells]) ?_
    repeat' first
      | refine k_then ?_ | refine s_nil ?_ | refine s_assign (by exact rfl) (by exact rfl) ?_ | refine c_ret ?_ | fail
    refine retL [.cell 4 24, .tmp 5] [.agg #[.int .i64 n, vo], .int .i64 0] [0] rfl ⟨res_cellk (tb := 24) (cs := [.int .i64 n, vo]) (k := 2) (off := 0) (us := [.int .i64 n, vo]) rfl (.tail _ (.head _)) rfl rfl, res_tmp rfl, trivial⟩ (by exact rfl) ⟨vo, 0, l', rfl, by rw [hl'], fun h => absurd h0 h, fun _ i f hf1 hf2 hf3 => absurd (hal f (List.mem_of_getElem? hf1)) hf2, fun _ _ => ⟨l', hperm, hpw, .inr ⟨rfl, rfl, fun i a b ha hb => hq i a b (by have := (List.getElem?_eq_some_iff.1 hb).1; omega) ha hb⟩⟩⟩
end Go.Proofs.YtpajjnkmaebhcabGreat
end
section
namespace Go.Sl
open Go Go.Proofs
instance : InTy Tryz.prog 3 .i64 := ⟨Tryz.underlying3⟩
instance : InTy Tryz.prog 111 .u64 := ⟨Tryz.underlying111⟩
end Go.Sl
end
section
namespace Fil
/-- is an edge between u and v? -/
def between (u v : Int) (e : E) : Bool := decide (e.1 = u ∧ e.2.1 = v ∨ e.1 = v ∧ e.2.1 = u)
def findK (es : List E) (u v : Int) : Int := match es.findIdx? (between u v) with | some i => (i : Int) | none => -1
theorem findK_ge {es : List E} {u v : Int} : 0 ≤ findK es u v ↔ ∃ e ∈ es, between u v e = true := by
  unfold findK
  cases h : es.findIdx? (between u v) with
  | none =>
    rw [List.findIdx?_eq_none_iff] at h
    simp only [show ¬ (0 : Int) ≤ -1 by omega, false_iff]
    rintro ⟨e, he, h2⟩
    rw [h e he] at h2
    simp at h2
  | some i =>
    obtain ⟨hi, h2, _⟩ := List.findIdx?_eq_some_iff_getElem.1 h
    simp only [show (0 : Int) ≤ (i : Int) by omega, true_iff]
    exact ⟨_, List.getElem_mem hi, h2⟩
def isNext (es : List E) (u v : Nat) : Bool := decide (0 ≤ findK es (u : Int) (v : Int))
theorem isNext_iff {n : Int} {es : List E} (hR : RightG n es) {u v : Nat} : isNext es u v = true ↔ v ∈ nb (tn es) u := by
  rw [isNext, decide_eq_true_iff, findK_ge, mem_nb (fun e he => by have := hR.good.lt e he; omega)]
  simp only [between, decide_eq_true_iff, tn, List.mem_map, Prod.mk.injEq]
  constructor
  · rintro ⟨e, he, h | h⟩
    · exact .inl ⟨e, he, by omega, by omega⟩
    · exact .inr ⟨e, he, by omega, by omega⟩
  · rintro (⟨e, he, h1, h2⟩ | ⟨e, he, h1, h2⟩)
    · obtain ⟨q1, q2, _⟩ := hR.ok e he
      exact ⟨e, he, .inl ⟨by omega, by omega⟩⟩
    · obtain ⟨q1, q2, _⟩ := hR.ok e he
      exact ⟨e, he, .inr ⟨by omega, by omega⟩⟩
theorem nb_nodup {n : Int} {es : List E} (hR : RightG n es) (u : Nat) : (nb (tn es) u).Nodup := by
  rw [nb, List.Nodup, List.pairwise_filterMap, tn, List.pairwise_map]
  refine List.Pairwise.imp_of_mem ?_ hR.sorted
  intro a b ha hb hab x hx y hy
  obtain ⟨a1, a2, _⟩ := hR.ok a ha
  obtain ⟨b1, b2, _⟩ := hR.ok b hb
  dsimp only [ltE] at hab
  dsimp only at hx hy
  split at hx <;> split at hy
  · simp only [Option.some.injEq] at hx hy; omega
  · split at hy
    · simp only [Option.some.injEq] at hx hy; omega
    · simp at hy
  · split at hx
    · simp only [Option.some.injEq] at hx hy; omega
    · simp at hx
  · split at hx
    · split at hy
      · simp only [Option.some.injEq] at hx hy; omega
      · simp at hy
    · simp at hx
theorem near_eq {n : Int} {es : List E} (hR : RightG n es) {u : Nat} (hu : u < n.toNat) : (List.range n.toNat).filter (isNext es u) = nearS (tn es) u := by
  have hn := nb_nodup hR u
  refine List.Perm.eq_of_pairwise (le := fun a b => a ≤ b) (fun a b _ _ h1 h2 => Nat.le_antisymm h1 h2) ?_ ?_ ?_
  · exact (List.pairwise_lt_range.imp fun h => Nat.le_of_lt h).filter _
  · have := List.pairwise_mergeSort (le := fun (x y : Nat) => decide (x ≤ y)) (fun a b c h1 h2 => by simp at *; omega) (fun a b => by simp; omega) (nb (tn es) u)
    exact this.imp fun h => by simpa using h
  · refine ((List.perm_ext_iff_of_nodup (List.nodup_range.filter _) hn).2 fun v => ?_).trans (List.mergeSort_perm _ _).symm
    rw [List.mem_filter, List.mem_range, isNext_iff hR]
    exact ⟨fun h => h.2, fun h => ⟨hR.good.adj.lt u hu v h, h⟩⟩
end Fil
namespace Go.Proofs.YtpajjnkmaebhcabGreat
open Go.RowKit Go.Sl Fil
set_option maxRecDepth 100000
set_option maxHeartbeats 8000000
set_option linter.unusedVariables false
set_option linter.unusedSimpArgs false
attribute [local irreducible] Code.wp wpList bodyPost wpQuiet Exit.then Exit.inBlock Post wpAnyH wpOp
theorem Has_ok (v : Value) (l : List Int) (i : Int) (w : World) (hs : Shp v l.length) (hr : RO w No v (iV l)) :
    Calls Tryz.prog 47 #[v, .int .i64 i] w (Post w No (Just (.bool (decide (i ∈ l))))) := by
  have hm := hs.1
  simp only [maxLen] at hm
  refine enter0 (vs := [_, _]) Tryz.func47 rfl Tryz.ntmps47 rfl ?_
  repeat' first
    | refine k_then ?_ | refine c_seq ?_ | refine c_region ?_ | refine s_nil ?_ | refine s_assign (by exact rfl) (by exact rfl) ?_ | refine c_block ?_
  refine c_loop (fun k : Nat => k ≤ l.length ∧ i ∉ l.take k) (fun k => [(0, v), (1, .int .i64 i), (5, .int .i64 (k : Int))]) (fun _ => []) (fun k => l.length - k) 0 [] ⟨by omega, by simp⟩ rfl ⟨rfl, rfl, rfl, trivial⟩ ?_
  rintro k ⟨hk, hq⟩
  by_cases hlt : k < l.length
  · obtain ⟨c, hc⟩ : ∃ c, l[k]? = some c := ⟨_, List.getElem?_eq_getElem hlt⟩
    have h1 : (iV l)[k * 1]? = some (.int .i64 c) := by simp [iV, hc]
    repeat' first
      | refine k_then ?_ | refine c_seq ?_ | refine c_region ?_ | refine s_nil ?_ | refine s_move (by exact rfl) (by exact rfl) ?_ | refine s_assign (by exact rfl) (by exact rfl) ?_ | refine s_lss (by exact rfl) (by exact rfl) (by exact rfl) ?_ | refine s_eql (by exact rfl) (by exact rfl) (by exact rfl) ?_ | refine s_add (by exact rfl) (by exact rfl) (by exact rfl) (by omega) ?_ | refine s_len (by exact rfl) (by exact rfl) (by assumption) ?_ | refine s_idx (by exact rfl) (by exact rfl) (by exact rfl) (by assumption) (by first | assumption | omega) ?_ | refine s_ld_ro (by exact rfl) (by exact rfl) (by assumption) (by assumption) ?_ | refine c_block ?_ | refine c_skip ?_ | refine c_ret ?_ | refine k_then_ret ?_ | refine k_blk ?_ | refine k_blk_ret ?_ | (refine c_cond_p (by exact rfl) (fun h => ?_) (fun h => ?_) <;> try (exfalso; omega))
    · refine ret1 [] rfl rfl rfl ⟨congrArg Value.bool (decide_eq_true ?_).symm, rfl⟩
      have : c = i := by omega
      rw [← this]
      exact List.mem_of_getElem? hc
    · refine c_round (k + 1) [] (by exact rfl) (by exact ⟨rfl, rfl, rfl, trivial⟩) ⟨by omega, ?_⟩ (by omega)
      rw [List.take_add_one, hc]
      simp only [Option.toList_some, List.mem_append, List.mem_singleton]
      rintro (h | h)
      · exact hq h
      · omega
  · repeat' first
      | refine k_then ?_ | refine c_seq ?_ | refine c_region ?_ | refine s_nil ?_ | refine s_move (by exact rfl) (by exact rfl) ?_ | refine s_assign (by exact rfl) (by exact rfl) ?_ | refine s_lss (by exact rfl) (by exact rfl) (by exact rfl) ?_ | refine s_len (by exact rfl) (by exact rfl) (by assumption) ?_ | refine c_exit ?_ | refine c_ret ?_ | refine k_then_exit ?_ | refine k_blk_eq ?_ | (refine c_cond_p (by exact rfl) (fun h => ?_) (fun h => ?_) <;> try (exfalso; omega))
    rw [List.take_of_length_le (by omega)] at hq
    refine ret1 [] rfl rfl rfl ⟨congrArg Value.bool (decide_eq_false hq).symm, rfl⟩
theorem HasN_ok (v : Value) (l : List Nat) (i : Nat) (w : World) (hs : Shp v l.length) (hr : RO w No v (nV l)) :
    Calls Tryz.prog 47 #[v, .int .i64 (i : Int)] w (Post w No (Just (.bool (decide (i ∈ l))))) := by
  have h := Has_ok v (l.map fun z : Nat => (z : Int)) i w (by simpa using hs) (by rw [← nV_iV]; exact hr)
  have e : ((i : Int) ∈ l.map fun z : Nat => (z : Int)) ↔ i ∈ l := by
    simp only [List.mem_map]
    exact ⟨fun ⟨a, h1, h2⟩ => by rwa [show i = a by omega], fun h => ⟨i, h, rfl⟩⟩
  rwa [decide_eq_decide.2 e] at h
theorem Find_ok (n : Int) (v : Value) (es : List E) (x y : Int) (w : World) (hs : Shp v es.length) (hr : RO w No v (esV es)) :
    Calls Tryz.prog 83 #[.agg #[.int .i64 n, v], .int .i64 x, .int .i64 y] w (Post w No (Just (.int .i64 (findK es x y)))) := by
  have hm := hs.1
  simp only [maxLen] at hm
  refine enter0 (vs := [_, _, _]) Tryz.func83 rfl Tryz.ntmps83 rfl ?_
  repeat' first
    | refine k_then ?_ | refine c_seq ?_ | refine c_region ?_ | refine s_nil ?_ | refine s_assign (by exact rfl) (by exact rfl) ?_ | refine o_box (by exact rfl) (by exact rfl) (fun b => ?_) | refine c_block ?_
  refine c_loop (fun k : Nat => k ≤ es.length ∧ ∀ e ∈ es.take k, between x y e = false) (fun k => [(1, .int .i64 x), (2, .int .i64 y), (3, .pointer (some ⟨b, 0, none⟩)), (7, .int .i64 (k : Int))]) (fun _ => [boxHP b 24 [.int .i64 n, v]]) (fun k => es.length - k) 0 [0] ⟨by omega, by simp⟩ rfl ⟨rfl, rfl, rfl, rfl, trivial⟩ ?_
  rintro k ⟨hk, hq⟩
  by_cases hlt : k < es.length
  · obtain ⟨e, he⟩ : ∃ e, es[k]? = some e := ⟨_, List.getElem?_eq_getElem hlt⟩
    obtain ⟨hE0, hE1, hE2⟩ := esV_get he
    cases hbt : between x y e
    · have hn : ¬ (e.1 = x ∧ e.2.1 = y ∨ e.1 = y ∧ e.2.1 = x) := by simpa [between] using hbt
      repeat' first
        | refine k_then ?_ | refine c_seq ?_ | refine c_region ?_ | refine s_nil ?_ | refine s_move (by exact rfl) (by exact rfl) ?_ | refine s_assign (by exact rfl) (by exact rfl) ?_ | refine s_fa (by exact rfl) (by exact rfl) ?_ | refine s_ld_box (by exact rfl) (by exact rfl) (by exact .head _) (by exact rfl) ?_ | refine s_lss (by exact rfl) (by exact rfl) (by exact rfl) ?_ | refine s_eql (by exact rfl) (by exact rfl) (by exact rfl) ?_ | refine s_add (by exact rfl) (by exact rfl) (by exact rfl) (by omega) ?_ | refine s_len (by exact rfl) (by exact rfl) (by assumption) ?_ | refine s_idx (by exact rfl) (by exact rfl) (by exact rfl) (by assumption) (by first | assumption | omega) ?_ | refine s_fap (by exact rfl) (by exact rfl) (by assumption) (by omega) ?_ | refine s_pick_t (by exact rfl) (by exact rfl) (by exact rfl) ?_ | refine s_pick_f (by exact rfl) (by exact rfl) (by exact rfl) ?_ | refine s_ld_ro (by exact rfl) (by exact rfl) (by assumption) (by assumption) ?_ | refine c_block ?_ | refine c_skip ?_ | refine k_blk ?_ | (refine c_cond_p (by exact rfl) (fun h => ?_) (fun h => ?_) <;> try (exfalso; omega)) | refine c_cond_f (by exact rfl) ?_ | (refine g_case (by exact rfl) (by exact rfl) (fun h => ?_) (fun h => ?_) <;> try (exfalso; omega)) | refine g_skip (by exact rfl) (by exact rfl) (by exact rfl) (by exact rfl) ?_ | refine w_move (by exact rfl) (by exact rfl) (by exact rfl) (by exact rfl) ?_ | refine w_fa (by exact rfl) (by exact rfl) (by exact rfl) (by exact rfl) ?_ | refine w_ld_box (by exact rfl) (by exact rfl) (by exact rfl) (by exact rfl) (by exact .head _) (by exact rfl) ?_ | refine w_eql (by exact rfl) (by exact rfl) (by exact rfl) (by exact rfl) (by exact rfl) ?_ | refine w_idx (by exact rfl) (by exact rfl) (by exact rfl) (by exact rfl) (by exact rfl) (by assumption) (by first | assumption | omega) ?_ | refine w_fap (by exact rfl) (by exact rfl) (by exact rfl) (by exact rfl) (by assumption) (by omega) ?_ | refine w_pick_t (by exact rfl) (by exact rfl) (by exact rfl) (by exact rfl) (by exact rfl) ?_ | refine w_pick_f (by exact rfl) (by exact rfl) (by exact rfl) (by exact rfl) (by exact rfl) ?_ | refine w_ld_ro (by exact rfl) (by exact rfl) (by exact rfl) (by exact rfl) (by assumption) (by assumption) ?_
      all_goals
        refine c_round (k + 1) [0] (by exact rfl) (by exact ⟨rfl, rfl, rfl, rfl, trivial⟩) ⟨by omega, ?_⟩ (by omega)
        rw [List.take_add_one, he]
        intro a ha
        rcases List.mem_append.1 ha with ha | ha
        · exact hq a ha
        · obtain rfl : a = e := by simpa using ha
          exact hbt
    · have hp : e.1 = x ∧ e.2.1 = y ∨ e.1 = y ∧ e.2.1 = x := by simpa [between] using hbt
      have hfk : findK es x y = (k : Int) := by
        have : es.findIdx? (between x y) = some k := by
          rw [List.findIdx?_eq_some_iff_getElem]
          obtain ⟨h1, h2⟩ := List.getElem?_eq_some_iff.1 he
          refine ⟨h1, by rw [h2]; exact hbt, fun j hj => ?_⟩
          rw [hq _ (List.mem_take_iff_getElem.2 ⟨j, by omega, rfl⟩)]
          simp
        rw [findK, this]
      repeat' first
        | refine k_then ?_ | refine c_seq ?_ | refine c_region ?_ | refine s_nil ?_ | refine s_move (by exact rfl) (by exact rfl) ?_ | refine s_assign (by exact rfl) (by exact rfl) ?_ | refine s_fa (by exact rfl) (by exact rfl) ?_ | refine s_ld_box (by exact rfl) (by exact rfl) (by exact .head _) (by exact rfl) ?_ | refine s_lss (by exact rfl) (by exact rfl) (by exact rfl) ?_ | refine s_eql (by exact rfl) (by exact rfl) (by exact rfl) ?_ | refine s_len (by exact rfl) (by exact rfl) (by assumption) ?_ | refine s_idx (by exact rfl) (by exact rfl) (by exact rfl) (by assumption) (by first | assumption | omega) ?_ | refine s_fap (by exact rfl) (by exact rfl) (by assumption) (by omega) ?_ | refine s_pick_t (by exact rfl) (by exact rfl) (by exact rfl) ?_ | refine s_pick_f (by exact rfl) (by exact rfl) (by exact rfl) ?_ | refine s_ld_ro (by exact rfl) (by exact rfl) (by assumption) (by assumption) ?_ | refine c_block ?_ | refine c_skip ?_ | refine c_ret ?_ | refine k_then_ret ?_ | refine k_blk_ret ?_ | (refine c_cond_p (by exact rfl) (fun h => ?_) (fun h => ?_) <;> try (exfalso; omega)) | refine c_cond_t (by exact rfl) ?_ | (refine g_case (by exact rfl) (by exact rfl) (fun h => ?_) (fun h => ?_) <;> try (exfalso; omega)) | refine g_skip (by exact rfl) (by exact rfl) (by exact rfl) (by exact rfl) ?_ | refine w_move (by exact rfl) (by exact rfl) (by exact rfl) (by exact rfl) ?_ | refine w_fa (by exact rfl) (by exact rfl) (by exact rfl) (by exact rfl) ?_ | refine w_ld_box (by exact rfl) (by exact rfl) (by exact rfl) (by exact rfl) (by exact .head _) (by exact rfl) ?_ | refine w_eql (by exact rfl) (by exact rfl) (by exact rfl) (by exact rfl) (by exact rfl) ?_ | refine w_idx (by exact rfl) (by exact rfl) (by exact rfl) (by exact rfl) (by exact rfl) (by assumption) (by first | assumption | omega) ?_ | refine w_fap (by exact rfl) (by exact rfl) (by exact rfl) (by exact rfl) (by assumption) (by omega) ?_ | refine w_pick_t (by exact rfl) (by exact rfl) (by exact rfl) (by exact rfl) (by exact rfl) ?_ | refine w_ld_ro (by exact rfl) (by exact rfl) (by exact rfl) (by exact rfl) (by assumption) (by assumption) ?_
      all_goals refine ret1 [] rfl rfl rfl ⟨by rw [hfk], rfl⟩
  · repeat' first
      | refine k_then ?_ | refine c_seq ?_ | refine c_region ?_ | refine s_nil ?_ | refine s_move (by exact rfl) (by exact rfl) ?_ | refine s_assign (by exact rfl) (by exact rfl) ?_ | refine s_fa (by exact rfl) (by exact rfl) ?_ | refine s_ld_box (by exact rfl) (by exact rfl) (by exact .head _) (by exact rfl) ?_ | refine s_lss (by exact rfl) (by exact rfl) (by exact rfl) ?_ | refine s_len (by exact rfl) (by exact rfl) (by assumption) ?_ | refine c_exit ?_ | refine c_ret ?_ | refine k_then_exit ?_ | refine k_blk_eq ?_ | (refine c_cond_p (by exact rfl) (fun h => ?_) (fun h => ?_) <;> try (exfalso; omega))
    rw [List.take_of_length_le (by omega)] at hq
    refine ret1 [] rfl rfl rfl ⟨?_, rfl⟩
    have : es.findIdx? (between x y) = none := List.findIdx?_eq_none_iff.2 hq
    rw [findK, this]
theorem refNear_ok (n : Int) (v : Value) (es : List E) (w : World) (hs : Shp v es.length) (hr : RO w No v (esV es)) (hR : RightG n es) :
    Calls Tryz.prog 51 #[.agg #[.int .i64 n, v]] w (Post w No fun r L' => ∃ hs : List Value, hs.length = n.toNat ∧ L' = [rowHP r 28 1 n.toNat hs, starHP (kids rowN hs ((List.range n.toNat).map (nearS (tn es))))]) := by
  have hlo := hR.lo
  have hhi := hR.hi
  have hm : es.length < 4611686018427387904 := by have := hR.many; omega
  refine enter0 (vs := [_]) Tryz.func51 rfl Tryz.ntmps51 rfl ?_
  repeat' first
    | refine k_then ?_ | refine c_seq ?_ | refine c_region ?_ | refine s_nil ?_ | refine s_assign (by exact rfl) (by exact rfl) ?_ | refine s_fa (by exact rfl) (by exact rfl) ?_ | refine s_ld_box (by exact rfl) (by exact rfl) (by exact .head _) (by exact rfl) ?_ | refine o_box (by exact rfl) (by exact rfl) (fun b => ?_)
  refine o_make (by exact rfl) (by exact rfl) (by exact rfl) (by omega) (by omega) fun vo hvo => ?_
  rw [made1 rfl]
  have hnear := fun u (hu : u < n.toNat) => near_eq hR hu
  repeat' first
    | refine k_then ?_ | refine c_seq ?_ | refine c_region ?_ | refine s_nil ?_ | refine s_assign (by exact rfl) (by exact rfl) ?_ | refine c_block ?_
  generalize hN : n.toNat = N at *
  have hnN : n = (N : Int) := by omega
  subst hnN
  let part : Nat → Nat → Nat → List Nat := fun u m w => if w < u then (List.range N).filter (isNext es w) else if w = u then (List.range m).filter (isNext es w) else []
  refine c_nils 3 1 N ?_
  refine c_loop (fun x : Nat × List Value => x.1 ≤ N ∧ x.2.length = N) (fun x => [(1, .pointer (some ⟨b, 0, none⟩)), (3, vo), (4, .int .i64 (x.1 : Int))]) (fun x => [rowHP vo 28 1 N x.2, starHP (kids rowN x.2 ((List.range N).map (part x.1 0))), boxHP b 24 [.int .i64 (N : Int), v]]) (fun x => N - x.1) (0, List.replicate N (.slice none 0 0)) [1, 0, 0] ⟨by omega, by simp⟩ ?_ ⟨rfl, rfl, rfl, trivial⟩ ?_
  · rw [show (List.range N).map (part 0 0) = List.replicate N [] from by
      rw [List.eq_replicate_iff]
      refine ⟨by simp, fun x hx => ?_⟩
      obtain ⟨w, _, rfl⟩ := List.mem_map.1 hx
      simp only [part]
      split
      · omega
      · split <;> simp]
    rw [kids_nils]
    rfl
  rintro ⟨u, hs0⟩ ⟨hu, hl0⟩
  dsimp only at hu hl0 ⊢
  by_cases hul : u < N
  · repeat' first
      | refine k_then ?_ | refine c_seq ?_ | refine c_region ?_ | refine s_nil ?_ | refine s_move (by exact rfl) (by exact rfl) ?_ | refine s_assign (by exact rfl) (by exact rfl) ?_ | refine s_fa (by exact rfl) (by exact rfl) ?_ | refine s_ld_box (by exact rfl) (by exact rfl) (by exact .tail _ (.tail _ (.head _))) (by exact rfl) ?_ | refine s_lss (by exact rfl) (by exact rfl) (by exact rfl) ?_ | refine c_block ?_ | refine c_skip ?_ | (refine c_cond_p (by exact rfl) (fun h => ?_) (fun h => ?_) <;> try (exfalso; omega))
    refine c_loop (fun x : Nat × List Value => x.1 ≤ N ∧ x.2.length = N) (fun x => [(1, .pointer (some ⟨b, 0, none⟩)), (3, vo), (4, .int .i64 (u : Int)), (5, .int .i64 (x.1 : Int))]) (fun x => [rowHP vo 28 1 N x.2, starHP (kids rowN x.2 ((List.range N).map (part u x.1))), boxHP b 24 [.int .i64 (N : Int), v]]) (fun x => N - x.1) (0, hs0) [0, 0, 0] ⟨by omega, hl0⟩ (by exact rfl) ⟨rfl, rfl, rfl, rfl, trivial⟩ ?_
    clear hl0
    clear hs0
    rintro ⟨m, hs0⟩ ⟨hmN, hl0⟩
    dsimp only at hmN hl0 ⊢
    by_cases hml : m < N
    · repeat' first
        | refine k_then ?_ | refine c_seq ?_ | refine c_region ?_ | refine s_nil ?_ | refine s_move (by exact rfl) (by exact rfl) ?_ | refine s_fa (by exact rfl) (by exact rfl) ?_ | refine s_ld_box (by exact rfl) (by exact rfl) (by exact .tail _ (.tail _ (.head _))) (by exact rfl) ?_ | refine s_lss (by exact rfl) (by exact rfl) (by exact rfl) ?_ | refine s_ldk_box (by exact rfl) (by exact rfl) (by exact .tail _ (.tail _ (.head _))) (by exact rfl) (by exact rfl) ?_ | refine c_block ?_ | refine c_skip ?_ | (refine c_cond_p (by exact rfl) (fun h => ?_) (fun h => ?_) <;> try (exfalso; omega))
      refine s_call (by exact rfl) (by exact rfl) (fun w h => Find_ok N v es u m w hs (ro_old h hr)) ?_
      have hrow : (List.range (m + 1)).filter (isNext es u) = (List.range m).filter (isNext es u) ++ (if isNext es u m then [m] else []) := by
        rw [List.range_succ, List.filter_append]
        simp [List.filter_cons]
      have hpart : (List.range N).map (part u (m + 1)) = ((List.range N).map (part u m)).set u ((List.range (m + 1)).filter (isNext es u)) := by
        apply List.ext_getElem?
        intro k
        simp only [List.getElem?_set, List.getElem?_map, List.length_map, List.length_range]
        by_cases hk : k < N
        · rw [List.getElem?_range hk]
          by_cases hku : u = k
          · subst hku
            simp [part, hk]
          · simp only [hku, if_false, Option.map_some, part]
            have : ¬ k = u := fun e => hku e.symm
            simp [this]
        · rw [List.getElem?_eq_none (by simpa using hk)]
          have : ¬ u = k := by omega
          simp [this]
      have hpu : ((List.range N).map (part u m))[u]? = some ((List.range m).filter (isNext es u)) := by simp [part, hul]
      have hcnt : ((List.range m).filter (isNext es u)).length ≤ m := by
        have := List.length_filter_le (isNext es u) (List.range m)
        simpa using this
      cases hnx : isNext es u m
      · have hneg : ¬ (0 ≤ findK es (u : Int) (m : Int)) := by simpa [isNext] using hnx
        rw [hnx, if_neg (by simp), List.append_nil] at hrow
        repeat' first
          | refine k_then ?_ | refine c_region ?_ | refine s_nil ?_ | refine s_move (by exact rfl) (by exact rfl) ?_ | refine s_assign (by exact rfl) (by exact rfl) ?_ | refine s_geq (by exact rfl) (by exact rfl) (by exact rfl) ?_ | refine s_add (by exact rfl) (by exact rfl) (by exact rfl) (by omega) ?_ | refine c_skip ?_ | refine k_blk ?_ | (refine c_cond_p (by exact rfl) (fun h => ?_) (fun h => ?_) <;> try (exfalso; omega))
        refine c_round (m + 1, hs0) [0, 0, 0] ?_ (by exact ⟨rfl, rfl, rfl, rfl, trivial⟩) ⟨by dsimp only; omega, hl0⟩ (by dsimp only; omega)
        dsimp only
        rw [hpart, hrow, show ((List.range N).map (part u m)).set u ((List.range m).filter (isNext es u)) = (List.range N).map (part u m) from by
          apply List.ext_getElem?
          intro k
          rw [List.getElem?_set]
          split
          · rename_i e; subst e; rw [hpu]; simp [hul]
          · rfl]
        rfl
      · have hpos : 0 ≤ findK es (u : Int) (m : Int) := by simpa [isNext] using hnx
        rw [hnx, if_pos rfl] at hrow
        obtain ⟨hd, hhd⟩ : ∃ hd, hs0[u]? = some hd := ⟨_, List.getElem?_eq_getElem (by omega)⟩
        have hhd1 : hs0[u * 1]? = some hd := by simpa using hhd
        repeat' first
          | refine k_then ?_ | refine c_region ?_ | refine s_nil ?_ | refine s_move (by exact rfl) (by exact rfl) ?_ | refine s_geq (by exact rfl) (by exact rfl) (by exact rfl) ?_ | refine s_idx (by exact rfl) (by exact rfl) (by exact rfl) (by assumption) (by first | assumption | omega) ?_ | refine s_ld_row (by exact rfl) (by exact rfl) (by exact .head _) (by assumption) ?_ | (refine c_cond_p (by exact rfl) (fun h => ?_) (fun h => ?_) <;> try (exfalso; omega))
        refine o_mk [.int .i64 (m : Int)] (by exact rfl) (by exact rfl) rfl ?_ ?_ (by simp) fun vt hvt => ?_
        · simp [Value.cells]
        · simp
        skip
        refine c_take 2 u (by exact rfl) (kids_get hhd hpu) ?_
        refine c_pick [0, 1, 0, 0, 0] (by exact rfl) ?_
        refine o_append_row (i := 0) (by exact rfl) (by exact rfl) (by exact rfl) (by exact rfl) (by exact .tail _ (.tail _ (.head _))) (by exact rfl) (by simp [Value.cells, Value.oneCell']) ?_ fun vk hvk => ?_
        · omega
        repeat' first
          | refine s_idx (by exact rfl) (by exact rfl) (by exact rfl) (by assumption) (by first | assumption | omega) ?_
        refine o_st_row (i := 1) (by exact rfl) (by exact rfl) (by exact rfl) hvk.one (by omega) ?_
        repeat' first
          | refine k_then ?_ | refine c_region ?_ | refine s_nil ?_ | refine s_move (by exact rfl) (by exact rfl) ?_ | refine s_assign (by exact rfl) (by exact rfl) ?_ | refine s_add (by exact rfl) (by exact rfl) (by exact rfl) (by omega) ?_ | refine k_blk ?_
        refine c_pick [0, 0, 1, 1] (by exact rfl) ?_
        have e1 : rowHP vk 3 1 (((List.range m).filter (isNext es u)).length + 1) (nV ((List.range m).filter (isNext es u)) ++ [Value.int .i64 (m : Int)]) = rowN vk ((List.range (m + 1)).filter (isNext es u)) := by
          rw [hrow]
          exact rowN_snoc _ _ _
        refine c_give 1 u (by exact rfl) (by simp [kids, hl0, hul]) ?_
        refine c_round (m + 1, hs0.set u vk) [0, 0, 0] ?_ (by exact ⟨rfl, rfl, rfl, rfl, trivial⟩) ⟨by dsimp only; omega, by simpa using hl0⟩ (by dsimp only; omega)
        dsimp only
        rw [hpart, ← kids_set (x := empHP), ← e1, Nat.mul_one]
        rfl
    · repeat' first
        | refine k_then ?_ | refine c_seq ?_ | refine c_region ?_ | refine s_nil ?_ | refine s_move (by exact rfl) (by exact rfl) ?_ | refine s_assign (by exact rfl) (by exact rfl) ?_ | refine s_fa (by exact rfl) (by exact rfl) ?_ | refine s_ld_box (by exact rfl) (by exact rfl) (by exact .tail _ (.tail _ (.head _))) (by exact rfl) ?_ | refine s_lss (by exact rfl) (by exact rfl) (by exact rfl) ?_ | refine s_add (by exact rfl) (by exact rfl) (by exact rfl) (by omega) ?_ | refine c_exit ?_ | refine k_then_exit ?_ | refine k_blk ?_ | refine k_blk_eq ?_ | (refine c_cond_p (by exact rfl) (fun h => ?_) (fun h => ?_) <;> try (exfalso; omega))
      obtain rfl : m = N := by omega
      refine c_round (u + 1, hs0) [0, 0, 0] ?_ (by exact ⟨rfl, rfl, rfl, trivial⟩) ⟨by dsimp only; omega, hl0⟩ (by dsimp only; omega)
      dsimp only
      rw [show (List.range m).map (part (u + 1) 0) = (List.range m).map (part u m) from by
        apply List.map_congr_left
        intro w _
        simp only [part]
        by_cases h1 : w < u
        · rw [if_pos h1, if_pos (by omega)]
        · rw [if_neg h1]
          by_cases h2 : w = u
          · rw [if_pos h2, if_pos (by omega)]
          · rw [if_neg h2, if_neg (by omega)]
            split <;> simp]
      rfl
  · repeat' first
      | refine k_then ?_ | refine c_seq ?_ | refine c_region ?_ | refine s_nil ?_ | refine s_move (by exact rfl) (by exact rfl) ?_ | refine s_assign (by exact rfl) (by exact rfl) ?_ | refine s_fa (by exact rfl) (by exact rfl) ?_ | refine s_ld_box (by exact rfl) (by exact rfl) (by exact .tail _ (.tail _ (.head _))) (by exact rfl) ?_ | refine s_lss (by exact rfl) (by exact rfl) (by exact rfl) ?_ | refine c_exit ?_ | refine c_ret ?_ | refine k_then_exit ?_ | refine k_blk_eq ?_ | (refine c_cond_p (by exact rfl) (fun h => ?_) (fun h => ?_) <;> try (exfalso; omega))
    obtain rfl : u = N := by omega
    refine ret1 [0, 0] rfl rfl rfl ⟨hs0, hl0, ?_⟩
    rw [show (List.range u).map (part u 0) = (List.range u).map (nearS (tn es)) from by
      apply List.map_congr_left
      intro w hw
      have hw : w < u := by simpa using hw
      simp only [part]
      rw [if_pos hw, hnear w hw]]
end Go.Proofs.YtpajjnkmaebhcabGreat
end
section
namespace Go.Proofs.YtpajjnkmaebhcabGreat
open Go.RowKit Go.Sl Fil
set_option maxRecDepth 100000
set_option maxHeartbeats 8000000
set_option linter.unusedVariables false
set_option linter.unusedSimpArgs false
attribute [local irreducible] Code.wp wpList bodyPost wpQuiet Exit.then Exit.inBlock Post wpAnyH wpOp
theorem fieldOf_ok (n : Int) (v : Value) (es : List E) (w : World) (hs : Shp v es.length) (hr : RO w No v (esV es)) (hR : RightG n es) :
    Calls Tryz.prog 130 #[.agg #[.int .i64 n, v]] w (Post w No fun r L' => ∃ hs : List Value, hs.length = n.toNat ∧ L' = [rowHP r 62 1 n.toNat hs, starHP (kids mapK hs ((List.range n.toNat).map fun v => some (nearS (tn es) v)))]) := by
  have hlo := hR.lo
  have hhi := hR.hi
  have hnd : ∀ u, (nearS (tn es) u).Nodup := fun u => (List.mergeSort_perm _ _).nodup_iff.2 (nb_nodup hR u)
  have hlt : ∀ u, u < n.toNat → ∀ x ∈ nearS (tn es) u, x < n.toNat := fun u hu x hx => hR.good.adj.lt u hu x (mem_nearS.1 hx)
  have hll : ∀ u, (nearS (tn es) u).length ≤ 4194304 := fun u => by
    have h1 := nb_length (tn es) u
    have h2 := hR.many
    simp only [nearS, List.length_mergeSort]
    simp only [tn, List.length_map] at h1 ⊢
    omega
  refine enter0 (vs := [_]) Tryz.func130 rfl Tryz.ntmps130 rfl ?_
  repeat' first
    | refine k_then ?_ | refine c_seq ?_ | refine c_region ?_ | refine s_nil ?_ | refine s_assign (by exact rfl) (by exact rfl) ?_ | refine s_fa (by exact rfl) (by exact rfl) ?_ | refine s_ld_box (by exact rfl) (by exact rfl) (by exact .head _) (by exact rfl) ?_ | refine o_box (by exact rfl) (by exact rfl) (fun b => ?_)
  refine o_make (by exact rfl) (by exact rfl) (by exact rfl) (by omega) (by omega) fun vo hvo => ?_
  rw [made1 rfl]
  repeat' first
    | refine k_then ?_ | refine c_seq ?_ | refine c_region ?_ | refine s_nil ?_ | refine s_assign (by exact rfl) (by exact rfl) ?_ | refine s_ldk_box (by exact rfl) (by exact rfl) (by exact .tail _ (.head _)) (by exact rfl) (by exact rfl) ?_
  refine o_call (by exact rfl) (by exact rfl) (fun w h => Near_ok n v es w hs (ro_old h hr) hR) ?_
  rintro vn _ ⟨hn, hnl, rfl⟩
  refine know_row (v := vn) (.head _) fun hvn _ => ?_
  repeat' first
    | refine k_then ?_ | refine s_nil ?_ | refine s_move (by exact rfl) (by exact rfl) ?_ | refine s_len (by exact rfl) (by exact rfl) (by assumption) ?_ | refine c_block ?_
  generalize nearS (tn es) = A at *
  generalize hN : n.toNat = N at *
  have hnN : n = (N : Int) := by omega
  subst hnN
  let G : Nat → Nat → Option (List Nat) := fun i u => if u < i then some (A u) else none
  refine c_nilmaps N ?_
  refine c_loop (fun x : Nat × List Value => x.1 ≤ N ∧ x.2.length = N) (fun x => [(3, vo), (12, vn), (13, .int .i64 (N : Int)), (14, .int .i64 (x.1 : Int))]) (fun x => [rowHP vo 62 1 N x.2, starHP (kids mapK x.2 ((List.range N).map (G x.1))), rowHP vn 28 1 N hn, starHP (kids rowN hn ((List.range N).map A))]) (fun x => N - x.1) (0, List.replicate N (.map none)) [3, 0, 0, 0] ⟨by omega, by simp⟩ ?_ ⟨rfl, rfl, rfl, rfl, trivial⟩ ?_
  · rw [show (List.range N).map (G 0) = List.replicate N none from by
      rw [List.eq_replicate_iff]
      exact ⟨by simp, fun x hx => by
        obtain ⟨w, _, rfl⟩ := List.mem_map.1 hx
        simp [G]⟩]
    rfl
  rintro ⟨i, hf⟩ ⟨hi, hfl⟩
  dsimp only at hi hfl ⊢
  by_cases hil : i < N
  · obtain ⟨hd, hhd⟩ : ∃ hd, hn[i]? = some hd := ⟨_, List.getElem?_eq_getElem (by omega)⟩
    have hhd1 : hn[i * 1]? = some hd := by simpa using hhd
    have hK : rowHP hd 3 1 (A i).length (nV (A i)) ∈ kids rowN hn ((List.range N).map A) := kids_mem (f := rowN) (l := A i) hhd (by simp [hil])
    refine know_kid (Ks := kids rowN hn ((List.range N).map A)) (.tail _ (.tail _ (.tail _ (.head _)))) hK fun hhs _ => ?_
    have hAi := hll i
    repeat' first
      | refine k_then ?_ | refine c_seq ?_ | refine c_region ?_ | refine s_nil ?_ | refine s_move (by exact rfl) (by exact rfl) ?_ | refine s_assign (by exact rfl) (by exact rfl) ?_ | refine s_lss (by exact rfl) (by exact rfl) (by exact rfl) ?_ | refine s_idx (by exact rfl) (by exact rfl) (by exact rfl) (by assumption) (by first | assumption | omega) ?_ | refine s_ld_row (by exact rfl) (by exact rfl) (by exact .tail _ (.tail _ (.head _))) (by assumption) ?_ | refine c_block ?_ | refine c_skip ?_ | (refine c_cond_p (by exact rfl) (fun h => ?_) (fun h => ?_) <;> try (exfalso; omega))
    refine o_makeMap (by exact rfl) fun b => ?_
    repeat' first
      | refine s_idx (by exact rfl) (by exact rfl) (by exact rfl) (by assumption) (by first | assumption | omega) ?_
    refine o_st_row (i := 1) (by exact rfl) (by exact rfl) (by exact rfl) rfl (by omega) ?_
    repeat' first
      | refine k_then ?_ | refine c_seq ?_ | refine c_region ?_ | refine s_nil ?_ | refine s_move (by exact rfl) (by exact rfl) ?_ | refine s_len (by exact rfl) (by exact rfl) (by assumption) ?_ | refine c_block ?_
    refine c_give 1 i (by exact rfl) (by simp [kids, hfl, hil]) ?_
    refine c_loop (fun j : Nat => j ≤ (A i).length) (fun j => [(3, vo), (12, vn), (13, .int .i64 (N : Int)), (14, .int .i64 (i : Int)), (4, .int .i64 (i : Int)), (23, hd), (24, .int .i64 ((A i).length : Int)), (25, .int .i64 (j : Int))]) (fun j => [rowHP vo 62 1 N (hf.set i (.map (some b))), starHP ((kids mapK hf ((List.range N).map (G i))).set i (mapHP ekI Value.bool okI (.map (some b)) (setN ((A i).take j)))), rowHP vn 28 1 N hn, starHP (kids rowN hn ((List.range N).map A))]) (fun j => (A i).length - j) 0 [0, 0, 0, 0] (by omega) (by rw [Nat.mul_one]; exact rfl) ⟨rfl, rfl, rfl, rfl, rfl, rfl, rfl, rfl, trivial⟩ ?_
    intro j hj
    have hbk : (hf.set i (.map (some b)))[i * 1]? = some (.map (some b)) := by simp [hfl, hil]
    by_cases hjl : j < (A i).length
    · obtain ⟨x, hx⟩ : ∃ x, (A i)[j]? = some x := ⟨_, List.getElem?_eq_getElem hjl⟩
      have hxN := hlt i hil x (List.mem_of_getElem? hx)
      have hcx : (nV (A i))[j * 1]? = some (.int .i64 (x : Int)) := by simp [nV, hx]
      have htk : (A i).take (j + 1) = (A i).take j ++ [x] := by rw [List.take_add_one, hx]; rfl
      have hxn : x ∉ (A i).take j := fun h => by
        have hn' := hnd i
        rw [← List.take_append_drop j (A i)] at hn'
        have h2 : x ∈ (A i).drop j := by
          obtain ⟨h3, h4⟩ := List.getElem?_eq_some_iff.1 hx
          rw [List.drop_eq_getElem_cons h3, h4]; simp
        exact (List.nodup_append.1 hn').2.2 x h x h2 rfl
      repeat' first
        | refine k_then ?_ | refine c_seq ?_ | refine c_region ?_ | refine s_nil ?_ | refine s_move (by exact rfl) (by exact rfl) ?_ | refine s_assign (by exact rfl) (by exact rfl) ?_ | refine s_lss (by exact rfl) (by exact rfl) (by exact rfl) ?_ | refine s_idx (by exact rfl) (by exact rfl) (by exact rfl) (by assumption) (by first | assumption | omega) ?_ | refine s_ld_row (by exact rfl) (by exact rfl) (by exact .head _) (by assumption) ?_ | refine s_ld_kid (by exact rfl) (by exact rfl) (by assumption) (by exact .tail _ (.tail _ (.tail _ (.head _)))) (by assumption) ?_ | refine c_block ?_ | refine c_skip ?_ | (refine c_cond_p (by exact rfl) (fun h => ?_) (fun h => ?_) <;> try (exfalso; omega))
      refine c_take 1 i (by exact rfl) (by rw [List.getElem?_set_self (by simp [kids, hfl, hil])]) ?_
      refine o_mapup (x : Int) true (by exact rfl) (by exact rfl) (by exact rfl) (i := 0) (by exact rfl) rfl rfl ⟨by omega, by omega⟩ ?_
      rw [putK_setN hxn, ← htk]
      repeat' first
        | refine k_then ?_ | refine c_region ?_ | refine s_nil ?_ | refine s_move (by exact rfl) (by exact rfl) ?_ | refine s_add (by exact rfl) (by exact rfl) (by exact rfl) (by omega) ?_ | refine k_blk ?_
      refine c_give (L := [_, _, _, _]) 1 i (by exact rfl) (by simp [kids, hfl, hil]) ?_
      refine c_round (j + 1) [0, 0, 0, 0] (by rw [List.set_set, List.set_set]; rfl) (by exact ⟨rfl, rfl, rfl, rfl, rfl, rfl, rfl, rfl, trivial⟩) (by omega) (by omega)
    · repeat' first
        | refine k_then ?_ | refine c_seq ?_ | refine c_region ?_ | refine s_nil ?_ | refine s_move (by exact rfl) (by exact rfl) ?_ | refine s_lss (by exact rfl) (by exact rfl) (by exact rfl) ?_ | refine s_add (by exact rfl) (by exact rfl) (by exact rfl) (by omega) ?_ | refine c_exit ?_ | refine k_then_exit ?_ | refine k_blk ?_ | refine k_blk_eq ?_ | (refine c_cond_p (by exact rfl) (fun h => ?_) (fun h => ?_) <;> try (exfalso; omega))
      obtain rfl : j = (A i).length := by omega
      rw [List.take_length]
      refine c_round (i + 1, hf.set i (.map (some b))) [0, 0, 0, 0] ?_ (by exact ⟨rfl, rfl, rfl, rfl, trivial⟩) ⟨by dsimp only; omega, by simpa using hfl⟩ (by dsimp only; omega)
      dsimp only
      rw [show (kids mapK hf ((List.range N).map (G i))).set i (mapHP ekI Value.bool okI (.map (some b)) (setN (A i))) = kids mapK (hf.set i (.map (some b))) ((List.range N).map (G (i + 1))) from by
        rw [← range_set (g := G i) (g' := G (i + 1)) (i := i) (fun u _ hu => by
          simp only [G]
          by_cases h1 : u < i
          · rw [if_pos h1, if_pos (by omega)]
          · rw [if_neg h1, if_neg (by omega)]), ← kids_put]
        simp only [G, if_pos (Nat.lt_succ_self i)]
        rfl]
      rfl
  · repeat' first
      | refine k_then ?_ | refine c_seq ?_ | refine c_region ?_ | refine s_nil ?_ | refine s_move (by exact rfl) (by exact rfl) ?_ | refine s_assign (by exact rfl) (by exact rfl) ?_ | refine s_lss (by exact rfl) (by exact rfl) (by exact rfl) ?_ | refine c_exit ?_ | refine c_ret ?_ | refine k_then_exit ?_ | refine k_blk_eq ?_ | (refine c_cond_p (by exact rfl) (fun h => ?_) (fun h => ?_) <;> try (exfalso; omega))
    obtain rfl : i = N := by omega
    refine ret1 [0, 0] rfl rfl rfl ⟨hf, hfl, ?_⟩
    rw [show (List.range i).map (G i) = (List.range i).map (fun v => some (A v)) from by
      apply List.map_congr_left
      intro u hu
      simp only [G]
      rw [if_pos (by simpa using hu)]]
end Go.Proofs.YtpajjnkmaebhcabGreat
end
section
namespace Go.Proofs.YtpajjnkmaebhcabGreat
open Go.RowKit Go.Sl Fil
set_option maxRecDepth 100000
set_option maxHeartbeats 8000000
set_option linter.unusedVariables false
set_option linter.unusedSimpArgs false
attribute [local irreducible] Code.wp wpList bodyPost wpQuiet Exit.then Exit.inBlock Post wpAnyH wpOp
theorem take_ok (vf : Value) (hs : List Value) (N v : Nat) (A : Nat → Option (List Nat)) (l : List Nat) (w : World) (S : FS) (hsat : sats [rowHP vf 62 1 N hs, starHP (kids mapK hs ((List.range N).map A))] S w) (hN : N ≤ 1048576) (hv : v < N) (hA : A v = some l) (hnd : l.Nodup) (hl : ∀ u ∈ l, u < N ∧ u ≠ v ∧ ∃ m, A u = some m) :
    Calls Tryz.prog 132 #[vf, .int .i64 (v : Int)] w (Post w S fun r L' => ∃ hs' : List Value, hs'.length = N ∧ L' = [rowHP r 3 1 l.length (nV (sortN l)), rowHP vf 62 1 N hs', starHP (kids mapK hs' ((List.range N).map (takeF A v l)))]) := by
  have hlen : l.length ≤ N := nodup_length hnd fun u hu => (hl u hu).1
  refine enter (vs := [_, _]) Tryz.func132 rfl Tryz.ntmps132 rfl hsat ?_
  refine know_row (v := vf) (.head _) fun hvf hhl => ?_
  have hhl : hs.length = N := by omega
  obtain ⟨hd, hhd⟩ : ∃ hd, hs[v]? = some hd := ⟨_, List.getElem?_eq_getElem (by omega)⟩
  have hhd1 : hs[v * 1]? = some hd := by simpa using hhd
  have hkv : (kids mapK hs ((List.range N).map A))[v]? = some (mapHP ekI Value.bool okI hd (setN l)) := by
    rw [kids_get (l := A v) hhd (by simp [hv]), hA]; rfl
  repeat' first
    | refine k_then ?_ | refine c_seq ?_ | refine c_region ?_ | refine s_nil ?_ | refine s_move (by exact rfl) (by exact rfl) ?_ | refine s_assign (by exact rfl) (by exact rfl) ?_ | refine s_idx (by exact rfl) (by exact rfl) (by exact rfl) (by assumption) (by first | assumption | omega) ?_ | refine s_ld_row (by exact rfl) (by exact rfl) (by exact .head _) (by assumption) ?_
  refine c_take 1 v (by exact rfl) hkv ?_
  refine o_range (i := 0) (by exact rfl) (by exact rfl) (by exact rfl) fun it => ?_
  repeat' first
    | refine k_then ?_ | refine s_nil ?_ | refine c_block ?_
  refine c_nil 3 1 ?_
  refine c_loop (fun x : List Nat × List Nat × Option (Int × Bool) × Value => (x.1 ++ x.2.1).Perm l) (fun x => [(0, vf), (1, .int .i64 (v : Int)), (4, x.2.2.2), (10, it)]) (fun x => [rangeHP ekI Value.bool okI hd it (setN l) (setN x.2.1) x.2.2.1, rowHP x.2.2.2 3 1 x.1.length (nV x.1), rowHP vf 62 1 N hs, starHP ((kids mapK hs ((List.range N).map (cutF A v x.1))).set v empHP)]) (fun x => x.2.1.length) ([], l, none, .slice none 0 0) [1, 0, 0, 0] (List.Perm.refl l) (by rw [cutF_nil]; exact rfl) ⟨rfl, rfl, rfl, rfl, trivial⟩ ?_
  rintro ⟨dn, lf, cur, vo⟩ hp
  dsimp only at hp ⊢
  repeat' first
    | refine c_seq ?_ | refine c_region ?_
  refine o_next (i := 0) (by exact rfl) (by exact rfl) (by exact rfl) (fun he => ?_) (fun l1 p l2 he => ?_)
  · obtain rfl : lf = [] := by simpa [setN] using he
    rw [List.append_nil] at hp
    repeat' first
      | refine k_then ?_ | refine c_seq ?_ | refine c_region ?_ | refine s_nil ?_ | refine s_move (by exact rfl) (by exact rfl) ?_ | refine s_extract (by exact rfl) (by exact rfl) (by exact rfl) ?_ | refine c_exit ?_ | refine k_then_exit ?_ | refine k_blk_eq ?_ | refine c_cond_f (by exact rfl) ?_
    have hpl := hp.length_eq
    refine c_pick [1, 0, 0, 0] (by exact rfl) ?_
    refine s_lend [rowHP vo 3 1 dn.length (nV dn)] _ (by exact rfl) (by exact rfl) (by exact rfl) (fun w S h => nsort_row (sats_mem h.own (.head _)) (by omega)) ?_
    rintro _ _ ⟨rfl, rfl⟩
    repeat' first
      | refine k_then ?_ | refine c_seq ?_ | refine c_region ?_ | refine s_nil ?_ | refine s_move (by exact rfl) (by exact rfl) ?_ | refine s_idx (by exact rfl) (by exact rfl) (by exact rfl) (by assumption) (by first | assumption | omega) ?_
    refine o_st_row (i := 2) (by exact rfl) (by exact rfl) (by exact rfl) rfl (by omega) ?_
    repeat' first
      | refine k_then ?_ | refine c_seq ?_ | refine c_region ?_ | refine s_nil ?_ | refine s_move (by exact rfl) (by exact rfl) ?_ | refine s_assign (by exact rfl) (by exact rfl) ?_ | refine c_ret ?_
    refine c_triv (mapK (.map none) none) (fun _ _ => rfl) ?_
    refine c_give 3 v (by exact rfl) (by simp [kids, hhl, hv]) ?_
    refine ret1 [0, 1, 1] rfl rfl rfl ⟨hs.set v (.map none), by simpa using hhl, ?_⟩
    rw [Nat.mul_one, List.set_set, kids_put, show ((List.range N).map (cutF A v dn)).set v none = (List.range N).map (takeF A v l) from by
      rw [← range_set (g := cutF A v dn) (g' := takeF A v l) (i := v) (fun u _ hu => by rw [cutF_perm hp]; simp only [takeF, cutF, hu, if_false])]
      simp [takeF], ← sortN_congr hp, hpl]
    rfl
  · obtain ⟨a1, u, a2, rfl, rfl, e2⟩ := setN_split he
    rw [e2]
    have hul : u ∈ l := hp.mem_iff.1 (by simp)
    obtain ⟨huN, huv, m, hAu⟩ := hl u hul
    have hund : u ∉ dn := by
      have := hp.nodup_iff.2 hnd
      have h2 := (List.nodup_append.1 this).2.2
      exact fun h => h2 u h u (by simp) rfl
    have hdl : dn.length ≤ N := by
      have := hp.length_eq
      simp only [List.length_append] at this
      omega
    obtain ⟨hu, hhu⟩ : ∃ hd, hs[u]? = some hd := ⟨_, List.getElem?_eq_getElem (by omega)⟩
    have hhu1 : hs[u * 1]? = some hu := by simpa using hhu
    have hku : ((kids mapK hs ((List.range N).map (cutF A v dn))).set v empHP)[u]? = some (mapHP ekI Value.bool okI hu (setN m)) := by
      rw [List.getElem?_set_ne (by omega), kids_get (l := cutF A v dn u) hhu (by simp [huN]), cutF, if_neg hund, hAu]; rfl
    repeat' first
      | refine k_then ?_ | refine c_seq ?_ | refine c_region ?_ | refine s_nil ?_ | refine s_move (by exact rfl) (by exact rfl) ?_ | refine s_assign (by exact rfl) (by exact rfl) ?_ | refine s_entry (by exact rfl) (by exact rfl) (by exact .head _) ?_ | refine s_extract (by exact rfl) (by exact rfl) (by exact rfl) ?_ | refine c_block ?_ | refine c_skip ?_ | refine c_cond_t (by exact rfl) ?_
    refine o_mk [.int .i64 (u : Int)] (by exact rfl) (by exact rfl) rfl ?_ ?_ (by simp) fun vt hvt => ?_
    · simp [Value.cells]
    · simp
    skip
    refine o_append_row (i := 2) (by exact rfl) (by exact rfl) (by exact rfl) (by exact rfl) (by exact .head _) (by exact rfl) (by simp [Value.cells, Value.oneCell']) ?_ fun vo2 hvo2 => ?_
    · omega
    repeat' first
      | refine k_then ?_ | refine c_region ?_ | refine s_nil ?_ | refine s_move (by exact rfl) (by exact rfl) ?_ | refine s_assign (by exact rfl) (by exact rfl) ?_ | refine s_idx (by exact rfl) (by exact rfl) (by exact rfl) (by assumption) (by first | assumption | omega) ?_ | refine s_ld_row (by exact rfl) (by exact rfl) (by exact .tail _ (.tail _ (.tail _ (.head _)))) (by assumption) ?_
    refine c_take 4 u (by exact rfl) hku ?_
    refine o_del (v : Int) (i := 0) (by exact rfl) (by exact rfl) (by exact rfl) rfl ⟨by omega, by omega⟩ ?_
    rw [delK_setN]
    repeat' first
      | refine k_then ?_ | refine s_nil ?_ | refine k_blk ?_
    refine c_give (L := [_, _, _, _, _]) 4 u (by exact rfl) (by simp [kids, hhl, huN]) ?_
    refine c_round (dn ++ [u], a1 ++ a2, some ((u : Int), true), vo2) [1, 1, 1, 1] ?_ (by exact ⟨rfl, rfl, rfl, rfl, trivial⟩) ?_ (by simp)
    · dsimp only
      have hK : (((kids mapK hs ((List.range N).map (cutF A v dn))).set v empHP).set u (mapHP ekI Value.bool okI hu (setN (m.filter fun a => a ≠ v)))) = (kids mapK hs ((List.range N).map (cutF A v (dn ++ [u])))).set v empHP := by
        rw [List.set_comm _ _ (Ne.symm huv), show (mapHP ekI Value.bool okI hu (setN (m.filter fun a => a ≠ v))) = mapK hu (some (m.filter fun a => a ≠ v)) from rfl, kids_put2 hhu, ← range_set (g := cutF A v dn) (g' := cutF A v (dn ++ [u])) (i := u) (fun w _ hw => by rw [cutF_step hAu, if_neg hw]), cutF_step hAu, if_pos rfl]
      rw [List.set_set, hK]
      have e1 : rowHP vo2 3 1 (dn.length + 1) (nV dn ++ [Value.int .i64 (u : Int)]) = rowHP vo2 3 1 (dn ++ [u]).length (nV (dn ++ [u])) := by simp [nV]
      rw [← e1]
      rfl
    · dsimp only
      refine List.Perm.trans ?_ hp
      rw [List.append_assoc]
      exact List.Perm.append_left dn (by simpa using List.perm_middle.symm)
end Go.Proofs.YtpajjnkmaebhcabGreat
end
section
namespace Go.Proofs.YtpajjnkmaebhcabGreat
open Go.RowKit Go.Sl Fil
set_option maxRecDepth 100000
set_option maxHeartbeats 8000000
set_option linter.unusedVariables false
set_option linter.unusedSimpArgs false
attribute [local irreducible] Code.wp wpList bodyPost wpQuiet Exit.then Exit.inBlock Post wpAnyH wpOp
theorem fewest_ok (v : Value) (hs : List Value) (N : Nat) (A : Nat → Option (List Nat)) (w : World) (hr : RMs w No v hs N A) (hN : N ≤ 1048576) :
    Calls Tryz.prog 131 #[v] w (Post w No (Just (.int .i64 (optI (fewI A N))))) := by
  have hsh := hr.shp
  have hro := hr.ro
  have hsl := hr.len
  refine enter0 (vs := [_]) Tryz.func131 rfl Tryz.ntmps131 rfl ?_
  repeat' first
    | refine k_then ?_ | refine c_seq ?_ | refine c_region ?_ | refine s_nil ?_ | refine s_move (by exact rfl) (by exact rfl) ?_ | refine s_assign (by exact rfl) (by exact rfl) ?_ | refine s_len (by exact rfl) (by exact rfl) (by assumption) ?_ | refine c_block ?_
  refine c_loop (fun i : Nat => i ≤ N) (fun i => [(0, v), (3, .int .i64 (optI (fewI A i))), (6, v), (7, .int .i64 (N : Int)), (8, .int .i64 (i : Int))]) (fun _ => []) (fun i => N - i) 0 [] (by omega) rfl ⟨rfl, rfl, rfl, rfl, rfl, trivial⟩ ?_
  intro i hi
  by_cases hil : i < N
  · have hst := fewI_succ A i
    cases hA : A i with
    | none =>
      have hh := hr.none i hil hA
      have hh1 : hs[i * 1]? = some (.map none) := by simpa using hh
      have hst : fewI A (i + 1) = fewI A i := by rw [hst, fewStep, hA]
      repeat' first
        | refine k_then ?_ | refine c_seq ?_ | refine c_region ?_ | refine s_nil ?_ | refine s_move (by exact rfl) (by exact rfl) ?_ | refine s_assign (by exact rfl) (by exact rfl) ?_ | refine s_lss (by exact rfl) (by exact rfl) (by exact rfl) ?_ | refine s_idx (by exact rfl) (by exact rfl) (by exact rfl) (by assumption) (by first | assumption | omega) ?_ | refine s_ld_ro (by exact rfl) (by exact rfl) (by assumption) (by assumption) ?_ | refine c_block ?_ | refine c_skip ?_ | (refine c_cond_p (by exact rfl) (fun h => ?_) (fun h => ?_) <;> try (exfalso; omega))
      refine p_begin0 [(0, true), (1, true), (2, true), (3, true), (4, true), (5, true), (6, true), (7, true), (8, true), (9, true), (10, true), (11, true), (12, true), (13, true), (14, true), (15, true)] (by kernel_rfl) ?_
      repeat' first
        | refine p_nil ?_
        | (refine p_at (by exact rfl) ?_
           first
            | refine t_move (by exact rfl) (by exact rfl) (by exact fun _ h => h) ?_ | refine t_neqm (by exact rfl) (by exact rfl) (by exact rfl) (by exact fun _ h => h) ?_ | refine t_pick_f (by exact rfl) (by exact rfl) (by exact rfl) (by exact fun _ h => h) ?_ | refine t_skip (by exact rfl) (by exact rfl) (by exact rfl) (by exact rfl) (by exact fun _ h => h) ?_)
      repeat' first
        | refine k_then ?_ | refine c_region ?_ | refine s_nil ?_ | refine s_move (by exact rfl) (by exact rfl) ?_ | refine s_add (by exact rfl) (by exact rfl) (by exact rfl) (by omega) ?_ | refine c_skip ?_ | refine k_blk ?_ | refine c_cond_f (by exact rfl) ?_
      refine c_round (i + 1) [] (by exact rfl) (by rw [hst]; exact ⟨rfl, rfl, rfl, rfl, rfl, trivial⟩) (by omega) (by omega)
    | some l =>
      obtain ⟨b, hh, hm⟩ := hr.some i l hil hA
      have hh1 : hs[i * 1]? = some (.map (some b)) := by simpa using hh
      cases hf : fewI A i with
      | none =>
        have hst : fewI A (i + 1) = some i := by rw [hst, fewStep, hA, hf]
        simp only [optI]
        repeat' first
          | refine k_then ?_ | refine c_seq ?_ | refine c_region ?_ | refine s_nil ?_ | refine s_move (by exact rfl) (by exact rfl) ?_ | refine s_assign (by exact rfl) (by exact rfl) ?_ | refine s_lss (by exact rfl) (by exact rfl) (by exact rfl) ?_ | refine s_idx (by exact rfl) (by exact rfl) (by exact rfl) (by assumption) (by first | assumption | omega) ?_ | refine s_ld_ro (by exact rfl) (by exact rfl) (by assumption) (by assumption) ?_ | refine c_block ?_ | refine c_skip ?_ | (refine c_cond_p (by exact rfl) (fun h => ?_) (fun h => ?_) <;> try (exfalso; omega))
        refine p_begin0 [(0, true), (1, true), (2, true), (3, true), (4, true), (5, true), (6, true), (7, true), (8, true), (9, true), (10, true), (11, true), (12, true), (13, true), (14, true), (15, true)] (by kernel_rfl) ?_
        repeat' first
          | refine p_nil ?_
          | (refine p_at (by exact rfl) ?_
             first
              | refine t_move (by exact rfl) (by exact rfl) (by exact fun _ h => h) ?_ | refine t_neqm (by exact rfl) (by exact rfl) (by exact rfl) (by exact fun _ h => h) ?_ | refine t_pick_t (by exact rfl) (by exact rfl) (by exact rfl) (by exact fun _ h => h) ?_ | refine tw_move (by exact rfl) (by exact rfl) (by exact rfl) (by exact rfl) (by exact fun _ h => h) ?_ | refine tw_lss (by exact rfl) (by exact rfl) (by exact rfl) (by exact rfl) (by exact rfl) (by exact fun _ h => h) ?_ | refine tw_pick_t (by exact rfl) (by exact rfl) (by exact rfl) (by exact rfl) (by exact rfl) (by exact fun _ h => h) ?_ | (refine t_case (by exact rfl) (by exact rfl) (fun h => ?_) (fun h => ?_) <;> try (exfalso; omega)) | refine t_skip (by exact rfl) (by exact rfl) (by exact rfl) (by exact rfl) (by exact fun _ h => h) ?_)
        repeat' first
          | refine k_then ?_ | refine c_region ?_ | refine s_nil ?_ | refine s_move (by exact rfl) (by exact rfl) ?_ | refine s_assign (by exact rfl) (by exact rfl) ?_ | refine s_add (by exact rfl) (by exact rfl) (by exact rfl) (by omega) ?_ | refine k_blk ?_ | refine c_cond_t (by exact rfl) ?_
        refine c_round (i + 1) [] (by exact rfl) (by rw [hst]; exact ⟨rfl, rfl, rfl, rfl, rfl, trivial⟩) (by omega) (by omega)
      | some c =>
        obtain ⟨hci, lc, hAc⟩ := fewI_some hf
        obtain ⟨bc, hhc, hmc⟩ := hr.some c lc (by omega) hAc
        have hhc1 : hs[c * 1]? = some (.map (some bc)) := by simpa using hhc
        have hlc : lenF A c = lc.length := by rw [lenF, hAc]; rfl
        have e1 := setN_length l
        have e2 := setN_length lc
        simp only [optI]
        by_cases hlt : l.length < lc.length
        · have hst : fewI A (i + 1) = some i := by rw [hst, fewStep, hA, hf]; dsimp only; rw [hlc, if_pos hlt]
          repeat' first
            | refine k_then ?_ | refine c_seq ?_ | refine c_region ?_ | refine s_nil ?_ | refine s_move (by exact rfl) (by exact rfl) ?_ | refine s_assign (by exact rfl) (by exact rfl) ?_ | refine s_lss (by exact rfl) (by exact rfl) (by exact rfl) ?_ | refine s_idx (by exact rfl) (by exact rfl) (by exact rfl) (by assumption) (by first | assumption | omega) ?_ | refine s_ld_ro (by exact rfl) (by exact rfl) (by assumption) (by assumption) ?_ | refine c_block ?_ | refine c_skip ?_ | (refine c_cond_p (by exact rfl) (fun h => ?_) (fun h => ?_) <;> try (exfalso; omega))
          refine p_begin0 [(0, true), (1, true), (2, true), (3, true), (4, true), (5, true), (6, true), (7, true), (8, true), (9, true), (10, true), (11, true), (12, true), (13, true), (14, true), (15, true)] (by kernel_rfl) ?_
          repeat' first
            | refine p_nil ?_
            | (refine p_at (by exact rfl) ?_
               first
                | refine t_move (by exact rfl) (by exact rfl) (by exact fun _ h => h) ?_ | refine t_neqm (by exact rfl) (by exact rfl) (by exact rfl) (by exact fun _ h => h) ?_ | refine t_pick_t (by exact rfl) (by exact rfl) (by exact rfl) (by exact fun _ h => h) ?_ | refine tw_move (by exact rfl) (by exact rfl) (by exact rfl) (by exact rfl) (by exact fun _ h => h) ?_ | refine tw_lss (by exact rfl) (by exact rfl) (by exact rfl) (by exact rfl) (by exact rfl) (by exact fun _ h => h) ?_ | refine tw_lenm_ro (by exact rfl) (by exact rfl) (by exact rfl) (by exact rfl) (by assumption) (by exact fun _ h => h) ?_ | refine tw_idx (by exact rfl) (by exact rfl) (by exact rfl) (by exact rfl) (by exact rfl) (by assumption) (by first | assumption | omega) (by exact fun _ h => h) ?_ | refine tw_pick_f (by exact rfl) (by exact rfl) (by exact rfl) (by exact rfl) (by exact rfl) (by exact fun _ h => h) ?_ | refine tw_ld_ro (by exact rfl) (by exact rfl) (by exact rfl) (by exact rfl) (by assumption) (by assumption) (by exact fun _ h => h) ?_)
          repeat' first
            | refine k_then ?_ | refine c_region ?_ | refine s_nil ?_ | refine s_move (by exact rfl) (by exact rfl) ?_ | refine s_assign (by exact rfl) (by exact rfl) ?_ | refine s_add (by exact rfl) (by exact rfl) (by exact rfl) (by omega) ?_ | refine k_blk ?_ | (refine c_cond_p (by exact rfl) (fun h => ?_) (fun h => ?_) <;> try (exfalso; omega))
          refine c_round (i + 1) [] (by exact rfl) (by rw [hst]; exact ⟨rfl, rfl, rfl, rfl, rfl, trivial⟩) (by omega) (by omega)
        · have hst : fewI A (i + 1) = some c := by rw [hst, fewStep, hA, hf]; dsimp only; rw [hlc, if_neg hlt]
          repeat' first
            | refine k_then ?_ | refine c_seq ?_ | refine c_region ?_ | refine s_nil ?_ | refine s_move (by exact rfl) (by exact rfl) ?_ | refine s_assign (by exact rfl) (by exact rfl) ?_ | refine s_lss (by exact rfl) (by exact rfl) (by exact rfl) ?_ | refine s_idx (by exact rfl) (by exact rfl) (by exact rfl) (by assumption) (by first | assumption | omega) ?_ | refine s_ld_ro (by exact rfl) (by exact rfl) (by assumption) (by assumption) ?_ | refine c_block ?_ | refine c_skip ?_ | (refine c_cond_p (by exact rfl) (fun h => ?_) (fun h => ?_) <;> try (exfalso; omega))
          refine p_begin0 [(0, true), (1, true), (2, true), (3, true), (4, true), (5, true), (6, true), (7, true), (8, true), (9, true), (10, true), (11, true), (12, true), (13, true), (14, true), (15, true)] (by kernel_rfl) ?_
          repeat' first
            | refine p_nil ?_
            | (refine p_at (by exact rfl) ?_
               first
                | refine t_move (by exact rfl) (by exact rfl) (by exact fun _ h => h) ?_ | refine t_neqm (by exact rfl) (by exact rfl) (by exact rfl) (by exact fun _ h => h) ?_ | refine t_pick_t (by exact rfl) (by exact rfl) (by exact rfl) (by exact fun _ h => h) ?_ | refine tw_move (by exact rfl) (by exact rfl) (by exact rfl) (by exact rfl) (by exact fun _ h => h) ?_ | refine tw_lss (by exact rfl) (by exact rfl) (by exact rfl) (by exact rfl) (by exact rfl) (by exact fun _ h => h) ?_ | refine tw_lenm_ro (by exact rfl) (by exact rfl) (by exact rfl) (by exact rfl) (by assumption) (by exact fun _ h => h) ?_ | refine tw_idx (by exact rfl) (by exact rfl) (by exact rfl) (by exact rfl) (by exact rfl) (by assumption) (by first | assumption | omega) (by exact fun _ h => h) ?_ | refine tw_pick_f (by exact rfl) (by exact rfl) (by exact rfl) (by exact rfl) (by exact rfl) (by exact fun _ h => h) ?_ | refine tw_ld_ro (by exact rfl) (by exact rfl) (by exact rfl) (by exact rfl) (by assumption) (by assumption) (by exact fun _ h => h) ?_)
          repeat' first
            | refine k_then ?_ | refine c_region ?_ | refine s_nil ?_ | refine s_move (by exact rfl) (by exact rfl) ?_ | refine s_add (by exact rfl) (by exact rfl) (by exact rfl) (by omega) ?_ | refine c_skip ?_ | refine k_blk ?_ | (refine c_cond_p (by exact rfl) (fun h => ?_) (fun h => ?_) <;> try (exfalso; omega))
          refine c_round (i + 1) [] (by exact rfl) (by rw [hst]; exact ⟨rfl, rfl, rfl, rfl, rfl, trivial⟩) (by omega) (by omega)
  · repeat' first
      | refine k_then ?_ | refine c_seq ?_ | refine c_region ?_ | refine s_nil ?_ | refine s_move (by exact rfl) (by exact rfl) ?_ | refine s_assign (by exact rfl) (by exact rfl) ?_ | refine s_lss (by exact rfl) (by exact rfl) (by exact rfl) ?_ | refine c_exit ?_ | refine c_ret ?_ | refine k_then_exit ?_ | refine k_blk_eq ?_ | (refine c_cond_p (by exact rfl) (fun h => ?_) (fun h => ?_) <;> try (exfalso; omega))
    obtain rfl : i = N := by omega
    refine ret1 [] rfl rfl rfl ⟨rfl, rfl⟩
end Go.Proofs.YtpajjnkmaebhcabGreat
end
section
set_option linter.unusedVariables false
namespace Fil
structure WF (N : Nat) (A : Nat → Option (List Nat)) : Prop where
  out : ∀ v, N ≤ v → A v = none
  nd : ∀ v l, A v = some l → l.Nodup
  ne : ∀ v l, A v = some l → ∀ u ∈ l, u ≠ v
  sym : ∀ v l, A v = some l → ∀ u ∈ l, ∃ m, A u = some m ∧ v ∈ m
theorem WF.lt {N : Nat} {A : Nat → Option (List Nat)} (h : WF N A) {v : Nat} {l : List Nat} (hA : A v = some l) : v < N := by
  refine Decidable.byContradiction fun hn => ?_
  rw [h.out v (by omega)] at hA; simp at hA
theorem WF.all {N : Nat} {A : Nat → Option (List Nat)} (h : WF N A) {v : Nat} {l : List Nat} (hA : A v = some l) : ∀ u ∈ l, u < N ∧ u ≠ v ∧ ∃ m, A u = some m := fun u hu => by
  obtain ⟨m, hm, _⟩ := h.sym v l hA u hu
  exact ⟨h.lt hm, h.ne v l hA u hu, m, hm⟩
theorem WF.len {N : Nat} {A : Nat → Option (List Nat)} (h : WF N A) {v : Nat} {l : List Nat} (hA : A v = some l) : l.length ≤ N := nodup_length (h.nd v l hA) fun u hu => (h.all hA u hu).1
/-- what takeF holds -/
theorem takeF_some {N : Nat} {A : Nat → Option (List Nat)} {v : Nat} {l : List Nat} (h : WF N A) (hA : A v = some l) {u : Nat} {m : List Nat} : takeF A v l u = some m ↔ u ≠ v ∧ ∃ m0, A u = some m0 ∧ m = m0.filter fun a => a ≠ v := by
  unfold takeF
  by_cases hu : u = v
  · simp [hu]
  · rw [if_neg hu]
    by_cases hl : u ∈ l
    · rw [if_pos hl, Option.map_eq_some_iff]
      exact ⟨fun ⟨a, h1, h2⟩ => ⟨hu, a, h1, h2.symm⟩, fun ⟨_, a, h1, h2⟩ => ⟨a, h1, h2.symm⟩⟩
    · rw [if_neg hl]
      refine ⟨fun hm => ⟨hu, m, hm, ?_⟩, fun ⟨_, m0, h1, h2⟩ => ?_⟩
      · refine (List.filter_eq_self.2 fun a ha => ?_).symm
        simp only [decide_eq_true_eq]
        rintro rfl
        obtain ⟨l', h1, h2⟩ := h.sym u m hm a ha
        rw [hA] at h1
        obtain rfl : l = l' := by simpa using h1
        exact hl h2
      · rw [h1, h2]
        refine congrArg some (List.filter_eq_self.2 fun a ha => ?_).symm
        simp only [decide_eq_true_eq]
        rintro rfl
        obtain ⟨l', h3, h4⟩ := h.sym u m0 h1 a ha
        rw [hA] at h3
        obtain rfl : l = l' := by simpa using h3
        exact hl h4
theorem takeF_none {N : Nat} {A : Nat → Option (List Nat)} {v : Nat} {l : List Nat} {u : Nat} : takeF A v l u = none ↔ u = v ∨ A u = none := by
  unfold takeF
  by_cases hu : u = v
  · simp [hu]
  · rw [if_neg hu]
    split <;> simp [hu]
theorem WF.take {N : Nat} {A : Nat → Option (List Nat)} {v : Nat} {l : List Nat} (h : WF N A) (hA : A v = some l) : WF N (takeF A v l) where
  out u hu := takeF_none (N := N).2 (.inr (h.out u hu))
  nd u m hm := by
    obtain ⟨_, m0, h1, rfl⟩ := (takeF_some h hA).1 hm
    exact (h.nd u m0 h1).sublist List.filter_sublist
  ne u m hm a ha := by
    obtain ⟨_, m0, h1, rfl⟩ := (takeF_some h hA).1 hm
    exact h.ne u m0 h1 a (List.mem_filter.1 ha).1
  sym u m hm a ha := by
    obtain ⟨huv, m0, h1, rfl⟩ := (takeF_some h hA).1 hm
    obtain ⟨ha1, ha2⟩ := List.mem_filter.1 ha
    obtain ⟨m1, h2, h3⟩ := h.sym u m0 h1 a ha1
    exact ⟨m1.filter fun b => b ≠ v, (takeF_some h hA).2 ⟨by simpa using ha2, m1, h2, rfl⟩, List.mem_filter.2 ⟨h3, by simpa using huv⟩⟩
def addN (m : List Nat) (b : Nat) : List Nat := if b ∈ m then m else m ++ [b]
/-- what is added to u's neighbours: bs but for u -/
def addL (m : List Nat) (u : Nat) (bs : List Nat) : List Nat := (bs.filter fun b => b ≠ u).foldl addN m
theorem addN_nodup {m : List Nat} {b : Nat} (h : m.Nodup) : (addN m b).Nodup := by
  unfold addN
  split
  · exact h
  · rename_i hb
    exact List.nodup_append.2 ⟨h, by simp, fun x hx y hy e => by
      obtain rfl : y = b := by simpa using hy
      exact hb (e ▸ hx)⟩
theorem mem_addN {m : List Nat} {b x : Nat} : x ∈ addN m b ↔ x ∈ m ∨ x = b := by
  unfold addN
  split
  · rename_i hb
    exact ⟨.inl, fun h => h.elim id (fun e => e ▸ hb)⟩
  · simp
theorem foldl_addN_nodup : ∀ (bs m : List Nat), m.Nodup → (bs.foldl addN m).Nodup
  | [], _, h => h
  | b :: bs, m, h => foldl_addN_nodup bs _ (addN_nodup h)
theorem mem_foldl_addN {x : Nat} : ∀ (bs m : List Nat), x ∈ bs.foldl addN m ↔ x ∈ m ∨ x ∈ bs
  | [], m => by simp
  | b :: bs, m => by rw [List.foldl_cons, mem_foldl_addN bs, mem_addN, List.mem_cons, or_assoc]
theorem mem_addL {m bs : List Nat} {u x : Nat} : x ∈ addL m u bs ↔ x ∈ m ∨ x ∈ bs ∧ x ≠ u := by
  rw [addL, mem_foldl_addN, List.mem_filter]
  simp
theorem addL_snoc (m : List Nat) (u b : Nat) (bs : List Nat) : addL m u (bs ++ [b]) = if b ≠ u then addN (addL m u bs) b else addL m u bs := by
  unfold addL
  rw [List.filter_append, List.foldl_append]
  by_cases h : b = u <;> simp [h]
/-- those of l are joined -/
def joinF (A : Nat → Option (List Nat)) (l : List Nat) (u : Nat) : Option (List Nat) := if u ∈ l then (A u).map fun m => addL m u l else A u
theorem joinF_some {A : Nat → Option (List Nat)} {l : List Nat} {u : Nat} {m : List Nat} : joinF A l u = some m ↔ ∃ m0, A u = some m0 ∧ m = if u ∈ l then addL m0 u l else m0 := by
  unfold joinF
  by_cases h : u ∈ l
  · simp only [h, if_true, Option.map_eq_some_iff]
    exact ⟨fun ⟨a, h1, h2⟩ => ⟨a, h1, h2.symm⟩, fun ⟨a, h1, h2⟩ => ⟨a, h1, h2.symm⟩⟩
  · simp only [h, if_false]
    exact ⟨fun h => ⟨m, h, rfl⟩, fun ⟨a, h1, h2⟩ => by rw [h1, h2]⟩
theorem joinF_none {A : Nat → Option (List Nat)} {l : List Nat} {u : Nat} : joinF A l u = none ↔ A u = none := by
  unfold joinF
  split <;> simp
theorem WF.join {N : Nat} {A : Nat → Option (List Nat)} {l : List Nat} (h : WF N A) (hl : ∀ u ∈ l, ∃ m, A u = some m) : WF N (joinF A l) where
  out u hu := joinF_none.2 (h.out u hu)
  nd u m hm := by
    obtain ⟨m0, h1, rfl⟩ := joinF_some.1 hm
    split
    · exact foldl_addN_nodup _ _ (h.nd u m0 h1)
    · exact h.nd u m0 h1
  ne u m hm a ha := by
    obtain ⟨m0, h1, rfl⟩ := joinF_some.1 hm
    split at ha
    · rcases mem_addL.1 ha with h2 | h2
      · exact h.ne u m0 h1 a h2
      · exact h2.2
    · exact h.ne u m0 h1 a ha
  sym u m hm a ha := by
    obtain ⟨m0, h1, rfl⟩ := joinF_some.1 hm
    have old : a ∈ m0 → ∃ m', joinF A l a = some m' ∧ u ∈ m' := fun h2 => by
      obtain ⟨m1, h3, h4⟩ := h.sym u m0 h1 a h2
      refine ⟨_, joinF_some.2 ⟨m1, h3, rfl⟩, ?_⟩
      split
      · exact mem_addL.2 (.inl h4)
      · exact h4
    split at ha
    · rename_i hu
      rcases mem_addL.1 ha with h2 | h2
      · exact old h2
      · obtain ⟨m1, h3⟩ := hl a h2.1
        refine ⟨_, joinF_some.2 ⟨m1, h3, rfl⟩, ?_⟩
        rw [if_pos h2.1]
        exact mem_addL.2 (.inr ⟨hu, fun e => h2.2 e.symm⟩)
    · exact old ha
/-- .. in part: those before the i-th with all, the i-th with j -/
def joinP (A : Nat → Option (List Nat)) (s : List Nat) (i j : Nat) (w : Nat) : Option (List Nat) := if w ∈ s.take i then (A w).map fun m => addL m w s else if s[i]? = some w then (A w).map fun m => addL m w (s.take j) else A w
theorem joinP_zero (A : Nat → Option (List Nat)) (s : List Nat) : joinP A s 0 0 = A := by
  funext w
  simp only [joinP, List.take_zero, List.not_mem_nil, if_false]
  split
  · cases A w <;> simp [addL]
  · rfl
theorem joinP_next (A : Nat → Option (List Nat)) {s : List Nat} {i : Nat} (hi : i < s.length) : joinP A s i s.length = joinP A s (i + 1) 0 := by
  funext w
  obtain ⟨a, ha⟩ : ∃ a, s[i]? = some a := ⟨_, List.getElem?_eq_getElem hi⟩
  simp only [joinP, List.take_add_one, ha, Option.toList_some, List.mem_append, List.mem_singleton, List.take_length]
  by_cases h1 : w ∈ s.take i
  · simp [h1]
  · by_cases h2 : a = w
    · simp [h1, h2]
    · have h2' : ¬ w = a := fun e => h2 e.symm
      simp only [h1, h2', or_self, if_false]
      rw [if_neg (by simpa using h2)]
      split
      · cases A w <;> simp [addL]
      · rfl
theorem joinP_all (A : Nat → Option (List Nat)) (s : List Nat) : joinP A s s.length 0 = joinF A s := by
  funext w
  simp [joinP, joinF]
theorem joinP_step {A : Nat → Option (List Nat)} {s : List Nat} {i j a b : Nat} (hn : s.Nodup) (ha : s[i]? = some a) (hb : s[j]? = some b) (w : Nat) : joinP A s i (j + 1) w = if w = a ∧ b ≠ a then (joinP A s i j w).map fun m => addN m b else joinP A s i j w := by
  have hna : a ∉ s.take i := fun h => by
    rw [← List.take_append_drop i s] at hn
    have h2 : a ∈ s.drop i := by
      obtain ⟨h3, h4⟩ := List.getElem?_eq_some_iff.1 ha
      rw [List.drop_eq_getElem_cons h3, h4]; simp
    exact (List.nodup_append.1 hn).2.2 a h a h2 rfl
  have htk : s.take (j + 1) = s.take j ++ [b] := by rw [List.take_add_one, hb]; rfl
  by_cases hw : w = a
  · subst hw
    simp only [joinP, hna, if_false, ha, if_true, htk, addL_snoc, true_and, ne_eq]
    by_cases hbw : b = w
    · simp [hbw]
    · simp only [hbw, not_false_eq_true, if_true, Option.map_map]
      rfl
  · rw [if_neg (fun h => hw h.1)]
    simp only [joinP, ha, Option.some.injEq]
    have : ¬ a = w := fun e => hw e.symm
    simp [this]
theorem joinP_some {A : Nat → Option (List Nat)} {s : List Nat} {i j w : Nat} {m : List Nat} (h : A w = some m) : ∃ m', joinP A s i j w = some m' := by
  unfold joinP
  split
  · exact ⟨_, by rw [h]; rfl⟩
  · split
    · exact ⟨_, by rw [h]; rfl⟩
    · exact ⟨m, h⟩
def leftN (N : Nat) (A : Nat → Option (List Nat)) : Nat := (List.range N).countP fun v => (A v).isSome
theorem leftN_take {N : Nat} {A : Nat → Option (List Nat)} {v : Nat} {l : List Nat} (h : WF N A) (hA : A v = some l) : leftN N (takeF A v l) + 1 ≤ leftN N A := by
  refine countP_lt (fun u hu => ?_) (List.mem_range.2 (h.lt hA)) (by simp [takeF]) (by simp [hA])
  cases ha : A u with
  | none => rw [takeF_none (N := N).2 (.inr ha)] at hu; simp at hu
  | some m => rfl
theorem leftN_join {N : Nat} {A : Nat → Option (List Nat)} {l : List Nat} : leftN N (joinF A l) = leftN N A := by
  unfold leftN
  congr 1
  funext u
  cases ha : A u with
  | none => rw [joinF_none.2 ha]
  | some m => rw [joinF_some.2 ⟨m, ha, rfl⟩]; rfl
/-- one step of the elimination -/
def elimF (A : Nat → Option (List Nat)) (v : Nat) : Nat → Option (List Nat) := joinF (takeF A v ((A v).getD [])) (sortN ((A v).getD []))
def runS (N : Nat) : Nat → (Nat → Option (List Nat)) → List (Nat × List Nat)
  | 0, _ => []
  | k + 1, A => match fewI A N with
    | none => []
    | some v => (v, sortN ((A v).getD [])) :: runS N k (elimF A v)
theorem WF.elim {N : Nat} {A : Nat → Option (List Nat)} (h : WF N A) {v : Nat} {l : List Nat} (hA : A v = some l) : WF N (elimF A v) := by
  rw [elimF, hA]
  refine (h.take hA).join fun u hu => ?_
  have hu : u ∈ l := (sortN_perm l).mem_iff.1 hu
  obtain ⟨_, h2, m, h3⟩ := h.all hA u hu
  exact ⟨_, (takeF_some h hA).2 ⟨h2, m, h3, rfl⟩⟩
theorem leftN_elim {N : Nat} {A : Nat → Option (List Nat)} (h : WF N A) {v : Nat} {l : List Nat} (hA : A v = some l) : leftN N (elimF A v) + 1 ≤ leftN N A := by
  rw [elimF, hA, leftN_join]
  exact leftN_take h hA
theorem runS_fuel {N : Nat} : ∀ (k j : Nat) (A : Nat → Option (List Nat)), WF N A → leftN N A ≤ k → leftN N A ≤ j → runS N k A = runS N j A
  | 0, 0, _, _, _, _ => rfl
  | 0, j + 1, A, h, hk, _ => by
    cases hf : fewI A N with
    | none => simp [runS, hf]
    | some v =>
      obtain ⟨_, l, hA⟩ := fewI_some hf
      have := leftN_elim h hA
      omega
  | k + 1, 0, A, h, _, hj => by
    cases hf : fewI A N with
    | none => simp [runS, hf]
    | some v =>
      obtain ⟨_, l, hA⟩ := fewI_some hf
      have := leftN_elim h hA
      omega
  | k + 1, j + 1, A, h, hk, hj => by
    cases hf : fewI A N with
    | none => simp [runS, hf]
    | some v =>
      obtain ⟨_, l, hA⟩ := fewI_some hf
      have := leftN_elim h hA
      simp only [runS, hf]
      rw [runS_fuel k j _ (h.elim hA) (by omega) (by omega)]
theorem WF.near {n : Int} {es : List E} (hR : RightG n es) (hnd : ∀ u, (nearS (tn es) u).Nodup) : WF n.toNat (fun v => if v < n.toNat then some (nearS (tn es) v) else none) where
  out v hv := if_neg (by omega)
  nd v l h := by
    split at h
    · obtain rfl : _ = l := by simpa using h
      exact hnd v
    · simp at h
  ne v l h u hu := by
    split at h
    · obtain rfl : _ = l := by simpa using h
      rw [mem_nearS] at hu
      intro e
      subst e
      have hl : ∀ e ∈ tn es, e.1 ≠ e.2 := fun e he => by have := hR.good.lt e he; omega
      rcases (mem_nb hl).1 hu with h | h <;> exact hl _ h rfl
    · simp at h
  sym v l h u hu := by
    split at h
    · rename_i hv
      obtain rfl : _ = l := by simpa using h
      rw [mem_nearS] at hu
      have hun := hR.good.adj.lt v hv u hu
      exact ⟨_, if_pos hun, mem_nearS.2 (hR.good.adj.sym v u hv hu)⟩
    · simp at h
end Fil
end
section
namespace Go.Sl
open Go Go.RowKit Fil
def stV : List Nat → List Value → List Value
  | v :: vs, h :: hs => .int .i64 (v : Int) :: h :: stV vs hs
  | _, _ => []
theorem stV_snoc : ∀ {vs : List Nat} {hs : List Value} {v : Nat} {h : Value}, vs.length = hs.length → stV (vs ++ [v]) (hs ++ [h]) = stV vs hs ++ [.int .i64 (v : Int), h]
  | [], [], _, _, _ => rfl
  | x :: vs, y :: hs, v, h, e => by
    have := stV_snoc (vs := vs) (hs := hs) (v := v) (h := h) (by simpa using e)
    simp [stV, this]
theorem stV_get : ∀ {vs : List Nat} {hs : List Value} {i v : Nat} {h : Value}, vs[i]? = some v → hs[i]? = some h → (stV vs hs)[i * 2 + 0]? = some (.int .i64 (v : Int)) ∧ (stV vs hs)[i * 2 + 1]? = some h ∧ ((stV vs hs).drop (i * 2)).take 2 = [.int .i64 (v : Int), h]
  | [], _, _, _, _, h, _ => by simp at h
  | _ :: _, [], _, _, _, _, h => by simp at h
  | x :: vs, y :: hs, 0, v, h, e1, e2 => by
    simp only [List.getElem?_cons_zero, Option.some.injEq] at e1 e2
    subst e1 e2
    exact ⟨rfl, rfl, rfl⟩
  | x :: vs, y :: hs, i + 1, v, h, e1, e2 => by
    obtain ⟨h1, h2, h3⟩ := stV_get (vs := vs) (hs := hs) (i := i) (v := v) (h := h) (by simpa using e1) (by simpa using e2)
    refine ⟨?_, ?_, ?_⟩
    · rw [show (i + 1) * 2 + 0 = i * 2 + 0 + 1 + 1 from by omega]; exact h1
    · rw [show (i + 1) * 2 + 1 = i * 2 + 1 + 1 + 1 from by omega]; exact h2
    · rw [show (i + 1) * 2 = i * 2 + 1 + 1 from by omega]; exact h3
end Go.Sl
namespace Fil
def widthL (T : List (Nat × List Nat)) : Nat := T.foldl (fun w p => max w p.2.length) 0
theorem widthL_snoc (T : List (Nat × List Nat)) (v : Nat) (l : List Nat) : widthL (T ++ [(v, l)]) = max (widthL T) l.length := by simp [widthL]
end Fil
namespace Go.Proofs.YtpajjnkmaebhcabGreat
open Go.RowKit Go.Sl Fil
set_option maxRecDepth 100000
set_option maxHeartbeats 8000000
set_option linter.unusedVariables false
set_option linter.unusedSimpArgs false
attribute [local irreducible] Code.wp wpList bodyPost wpQuiet Exit.then Exit.inBlock Post wpAnyH wpOp
theorem steps_ok (n : Int) (v : Value) (es : List E) (w : World) (hs : Shp v es.length) (hr : RO w No v (esV es)) (hR : RightG n es) :
    Calls Tryz.prog 101 #[.agg #[.int .i64 n, v]] w (Post w No fun r L' => ∃ (vo : Value) (hs : List Value) (T : List (Nat × List Nat)), T = runS n.toNat n.toNat (fun v => if v < n.toNat then some (nearS (tn es) v) else none) ∧ r = .tuple #[vo, .int .i64 (widthL T : Int)] ∧ hs.length = T.length ∧ L' = [rowHP vo 142 2 T.length (stV (T.map Prod.fst) hs), starHP (kids rowN hs (T.map Prod.snd))]) := by
  have hlo := hR.lo
  have hhi := hR.hi
  have hnd : ∀ u, (nearS (tn es) u).Nodup := fun u => (List.mergeSort_perm _ _).nodup_iff.2 (nb_nodup hR u)
  have hWF := WF.near hR hnd
  refine enter0 (vs := [_]) Tryz.func101 rfl Tryz.ntmps101 rfl ?_
  repeat' first
    | refine k_then ?_ | refine c_seq ?_ | refine c_region ?_ | refine s_nil ?_ | refine s_assign (by exact rfl) (by exact rfl) ?_ | refine s_ldk_box (by exact rfl) (by exact rfl) (by exact .head _) (by exact rfl) (by exact rfl) ?_ | refine o_box (by exact rfl) (by exact rfl) (fun b => ?_)
  refine o_call (by exact rfl) (by exact rfl) (fun w h => fieldOf_ok n v es w hs (ro_old h hr) hR) ?_
  rintro vf _ ⟨hf, hfl, rfl⟩
  rw [show (List.range n.toNat).map (fun v => some (nearS (tn es) v)) = (List.range n.toNat).map (fun v => if v < n.toNat then some (nearS (tn es) v) else none) from by
    apply List.map_congr_left
    intro u hu
    rw [if_pos (by simpa using hu)]]
  generalize hN : n.toNat = N at *
  have hnN : n = (N : Int) := by omega
  subst hnN
  generalize (fun v => if v < N then some (nearS (tn es) v) else none) = A0 at *
  generalize hT : runS N N A0 = T0
  repeat' first
    | refine k_then ?_ | refine c_seq ?_ | refine c_region ?_ | refine s_nil ?_ | refine s_move (by exact rfl) (by exact rfl) ?_ | refine s_assign (by exact rfl) (by exact rfl) ?_
  refine s_call (by exact rfl) (by exact rfl) (fun w h => fewest_ok vf hf N A0 w (rms_own h (.head _) (.tail _ (.head _))) (by omega)) ?_
  repeat' first
    | refine k_then ?_ | refine s_nil ?_ | refine s_assign (by exact rfl) (by exact rfl) ?_ | refine c_block ?_
  have hlft : leftN N A0 ≤ N := by
    have := List.countP_le_length (l := List.range N) (p := fun v => (A0 v).isSome)
    rwa [List.length_range] at this
  refine c_nil 142 2 ?_
  refine c_star0 ?_
  refine c_loop (fun x : (Nat → Option (List Nat)) × List (Nat × List Nat) × List Value × List Value × Value => WF N x.1 ∧ x.2.1 ++ runS N (leftN N x.1) x.1 = T0 ∧ x.2.2.1.length = x.2.1.length ∧ x.2.2.2.1.length = N ∧ x.2.1.length + leftN N x.1 ≤ N) (fun x => [(2, x.2.2.2.2), (3, .int .i64 (widthL x.2.1 : Int)), (4, vf), (5, .int .i64 (optI (fewI x.1 N)))])
    (fun x => [rowHP vf 62 1 N x.2.2.2.1, starHP (kids mapK x.2.2.2.1 ((List.range N).map x.1)), rowHP x.2.2.2.2 142 2 x.2.1.length (stV (x.2.1.map Prod.fst) x.2.2.1), starHP (kids rowN x.2.2.1 (x.2.1.map Prod.snd))]) (fun x => leftN N x.1) (A0, [], [], hf, .slice none 0 0) [2, 2, 1, 0] ⟨hWF, ?_, rfl, hfl, by simpa using hlft⟩ (by exact rfl) ⟨rfl, rfl, rfl, rfl, trivial⟩ ?_
  · rw [List.nil_append, ← hT]
    exact runS_fuel _ _ _ hWF (Nat.le_refl _) hlft
  clear hWF hlft hT hfl
  clear hf A0
  rintro ⟨A, T, ho, hf, vo⟩ ⟨hWF, hT, hol, hfl, hcnt⟩
  dsimp only at hWF hT hol hfl hcnt ⊢
  refine know_row (v := vf) (.head _) fun hvf _ => ?_
  cases hfw : fewI A N with
  | none =>
    simp only [optI]
    repeat' first
      | refine k_then ?_ | refine c_seq ?_ | refine c_region ?_ | refine s_nil ?_ | refine s_move (by exact rfl) (by exact rfl) ?_ | refine s_assign (by exact rfl) (by exact rfl) ?_ | refine s_geq (by exact rfl) (by exact rfl) (by exact rfl) ?_ | refine c_exit ?_ | refine c_ret ?_ | refine k_then_exit ?_ | refine k_blk_eq ?_ | (refine c_cond_p (by exact rfl) (fun h => ?_) (fun h => ?_) <;> try (exfalso; omega))
    have h0 : runS N (leftN N A) A = [] := by
      cases leftN N A with
      | zero => rfl
      | succ k => simp [runS, hfw]
    rw [h0, List.append_nil] at hT
    refine ret2 [2, 2] rfl rfl rfl rfl ⟨vo, ho, T, hT, rfl, hol, rfl⟩
  | some x =>
    obtain ⟨hxN, l, hA⟩ := fewI_some hfw
    have hlen := hWF.len hA
    have hWF2 := hWF.elim hA
    have hlf2 := leftN_elim hWF hA
    have hrun : runS N (leftN N A) A = (x, sortN l) :: runS N (leftN N (elimF A x)) (elimF A x) := by
      obtain ⟨k, hk⟩ : ∃ k, leftN N A = k + 1 := ⟨leftN N A - 1, by omega⟩
      rw [hk]
      simp only [runS, hfw, hA, Option.getD_some]
      rw [runS_fuel k _ _ hWF2 (by omega) (Nat.le_refl _)]
    have hWF1 := hWF.take hA
    have hel : elimF A x = joinF (takeF A x l) (sortN l) := by rw [elimF, hA]; rfl
    have hsl : (sortN l).length = l.length := (sortN_perm l).length_eq
    have hsn : (sortN l).Nodup := (sortN_perm l).nodup_iff.2 (hWF.nd x l hA)
    have hsm : ∀ u ∈ sortN l, u < N ∧ ∃ m, takeF A x l u = some m := fun u hu => by
      have hu : u ∈ l := (sortN_perm l).mem_iff.1 hu
      obtain ⟨h1, h2, m, h3⟩ := hWF.all hA u hu
      exact ⟨h1, _, (takeF_some hWF hA).2 ⟨h2, m, h3, rfl⟩⟩
    simp only [optI]
    repeat' first
      | refine k_then ?_ | refine c_seq ?_ | refine c_region ?_ | refine s_nil ?_ | refine s_move (by exact rfl) (by exact rfl) ?_ | refine s_geq (by exact rfl) (by exact rfl) (by exact rfl) ?_ | refine c_block ?_ | refine c_skip ?_ | (refine c_cond_p (by exact rfl) (fun h => ?_) (fun h => ?_) <;> try (exfalso; omega))
    refine s_lend [rowHP vf 62 1 N hf, starHP (kids mapK hf ((List.range N).map A))] _ (by exact rfl) (by exact rfl) (by exact rfl) (fun w S h => take_ok vf hf N x A l w S h.own (by omega) hxN hA (hWF.nd x l hA) (hWF.all hA)) ?_
    rintro vs _ ⟨hf1, hf1l, rfl⟩
    rw [← hsl]
    refine know_row (v := vs) (.head _) fun hvs _ => ?_
    generalize hs : sortN l = s at *
    generalize takeF A x l = A1 at *
    repeat' first
      | refine k_then ?_ | refine c_seq ?_ | refine c_region ?_ | refine s_nil ?_ | refine s_move (by exact rfl) (by exact rfl) ?_ | refine s_assign (by exact rfl) (by exact rfl) ?_
    refine o_build [(0, .int .i64 (x : Int), [.int .i64 (x : Int)]), (1, vs, [vs])] (by exact rfl) (by exact rfl) (by
      intro q hq
      simp only [List.mem_cons, List.not_mem_nil, or_false] at hq
      rcases hq with rfl | rfl
      · rfl
      · exact one_cells hvs.one) (by exact rfl) ?_
    refine o_mk [.agg #[.int .i64 (x : Int), vs]] (by exact rfl) (by exact rfl) rfl ?_ ?_ (by simp) fun vt hvt => ?_
    · simp [Value.cells]
    · simp
    skip
    refine o_append_row (i := 4) (by exact rfl) (by exact rfl) (by exact rfl) (by exact rfl) (by exact .head _) (by exact rfl) (by
      intro u hu
      simp only [List.flatMap_cons, List.flatMap_nil, List.append_nil, Value.cells, List.mem_cons, List.not_mem_nil, or_false] at hu
      rcases hu with rfl | rfl
      · rfl
      · exact hvs.one) ?_ fun vo2 hvo2 => ?_
    · omega
    repeat' first
      | refine k_then ?_ | refine c_seq ?_ | refine c_region ?_ | refine s_nil ?_ | refine s_move (by exact rfl) (by exact rfl) ?_ | refine s_assign (by exact rfl) (by exact rfl) ?_ | refine s_max (by exact rfl) (by exact rfl) (by exact rfl) ?_ | refine s_len (by exact rfl) (by exact rfl) (by assumption) ?_ | refine c_block ?_
    refine c_loop (fun i : Nat => i ≤ s.length) (fun i => [(2, vo2), (3, .int .i64 (max (widthL T : Int) (s.length : Int))), (4, vf), (6, vs), (32, vs), (33, .int .i64 (s.length : Int)), (34, .int .i64 (i : Int))])
      (fun i => [rowHP vf 62 1 N hf1, starHP (kids mapK hf1 ((List.range N).map (joinP A1 s i 0))), rowHP vs 3 1 s.length (nV s), rowHP vo2 142 2 (T.length + 1) (stV (T.map Prod.fst) ho ++ [.int .i64 (x : Int), vs]), starHP (kids rowN ho (T.map Prod.snd))]) (fun i => s.length - i) 0 [2, 2, 1, 1, 1] (Nat.zero_le _) (by rw [joinP_zero]; exact rfl) ⟨rfl, rfl, rfl, rfl, rfl, rfl, rfl, trivial⟩ ?_
    intro i hi
    by_cases hil : i < s.length
    · obtain ⟨a, ha⟩ : ∃ a, s[i]? = some a := ⟨_, List.getElem?_eq_getElem hil⟩
      obtain ⟨haN, ma, hma⟩ := hsm a (List.mem_of_getElem? ha)
      have hca : (nV s)[i * 1]? = some (.int .i64 (a : Int)) := by simp [nV, ha]
      obtain ⟨hd, hhd⟩ : ∃ hd, hf1[a]? = some hd := ⟨_, List.getElem?_eq_getElem (by omega)⟩
      have hhd1 : hf1[a * 1]? = some hd := by simpa using hhd
      repeat' first
        | refine k_then ?_ | refine c_seq ?_ | refine c_region ?_ | refine s_nil ?_ | refine s_move (by exact rfl) (by exact rfl) ?_ | refine s_assign (by exact rfl) (by exact rfl) ?_ | refine s_lss (by exact rfl) (by exact rfl) (by exact rfl) ?_ | refine s_len (by exact rfl) (by exact rfl) (by assumption) ?_ | refine s_idx (by exact rfl) (by exact rfl) (by exact rfl) (by assumption) (by first | assumption | omega) ?_ | refine s_ld_row (by exact rfl) (by exact rfl) (by exact .tail _ (.tail _ (.head _))) (by assumption) ?_ | refine c_block ?_ | refine c_skip ?_ | (refine c_cond_p (by exact rfl) (fun h => ?_) (fun h => ?_) <;> try (exfalso; omega))
      refine c_loop (fun j : Nat => j ≤ s.length) (fun j => [(2, vo2), (3, .int .i64 (max (widthL T : Int) (s.length : Int))), (4, vf), (6, vs), (32, vs), (33, .int .i64 (s.length : Int)), (34, .int .i64 (i : Int)), (8, .int .i64 (a : Int)), (38, vs), (39, .int .i64 (s.length : Int)), (40, .int .i64 (j : Int))])
        (fun j => [rowHP vf 62 1 N hf1, starHP (kids mapK hf1 ((List.range N).map (joinP A1 s i j))), rowHP vs 3 1 s.length (nV s), rowHP vo2 142 2 (T.length + 1) (stV (T.map Prod.fst) ho ++ [.int .i64 (x : Int), vs]), starHP (kids rowN ho (T.map Prod.snd))]) (fun j => s.length - j) 0 [0, 0, 0, 0, 0] (Nat.zero_le _) (by exact rfl) ⟨rfl, rfl, rfl, rfl, rfl, rfl, rfl, rfl, rfl, rfl, rfl, trivial⟩ ?_
      intro j hj
      by_cases hjl : j < s.length
      · obtain ⟨c, hc⟩ : ∃ c, s[j]? = some c := ⟨_, List.getElem?_eq_getElem hjl⟩
        obtain ⟨hcN, _⟩ := hsm c (List.mem_of_getElem? hc)
        have hcc : (nV s)[j * 1]? = some (.int .i64 (c : Int)) := by simp [nV, hc]
        have hstep := joinP_step (A := A1) hsn ha hc
        obtain ⟨m1, hm1⟩ := joinP_some (s := s) (i := i) (j := j) hma
        by_cases hca2 : c = a
        · have he : joinP A1 s i (j + 1) = joinP A1 s i j := by
            funext w
            rw [hstep w, if_neg (fun h => h.2 hca2)]
          repeat' first
            | refine k_then ?_ | refine c_seq ?_ | refine c_region ?_ | refine s_nil ?_ | refine s_move (by exact rfl) (by exact rfl) ?_ | refine s_assign (by exact rfl) (by exact rfl) ?_ | refine s_lss (by exact rfl) (by exact rfl) (by exact rfl) ?_ | refine s_neq (by exact rfl) (by exact rfl) (by exact rfl) ?_ | refine s_add (by exact rfl) (by exact rfl) (by exact rfl) (by omega) ?_ | refine s_idx (by exact rfl) (by exact rfl) (by exact rfl) (by assumption) (by first | assumption | omega) ?_ | refine s_ld_row (by exact rfl) (by exact rfl) (by exact .tail _ (.tail _ (.head _))) (by assumption) ?_ | refine c_block ?_ | refine c_skip ?_ | refine k_blk ?_ | (refine c_cond_p (by exact rfl) (fun h => ?_) (fun h => ?_) <;> try (exfalso; omega))
          refine c_round (j + 1) [0, 0, 0, 0, 0] (by rw [he]; rfl) (by exact ⟨rfl, rfl, rfl, rfl, rfl, rfl, rfl, rfl, rfl, rfl, rfl, trivial⟩) (by omega) (by omega)
        · have hkd : (kids mapK hf1 ((List.range N).map (joinP A1 s i j)))[a]? = some (mapHP ekI Value.bool okI hd (setN m1)) := by
            rw [kids_get (l := joinP A1 s i j a) hhd (by simp [haN]), hm1]; rfl
          have hput : putK (setN m1) (c : Int) true = setN (addN m1 c) := by
            unfold addN
            by_cases h : c ∈ m1
            · rw [if_pos h, putK_setN_old h]
            · rw [if_neg h, putK_setN h]
          repeat' first
            | refine k_then ?_ | refine c_seq ?_ | refine c_region ?_ | refine s_nil ?_ | refine s_move (by exact rfl) (by exact rfl) ?_ | refine s_assign (by exact rfl) (by exact rfl) ?_ | refine s_lss (by exact rfl) (by exact rfl) (by exact rfl) ?_ | refine s_neq (by exact rfl) (by exact rfl) (by exact rfl) ?_ | refine s_idx (by exact rfl) (by exact rfl) (by exact rfl) (by assumption) (by first | assumption | omega) ?_ | refine s_ld_row (by exact rfl) (by exact rfl) (by first | exact .head _ | exact .tail _ (.tail _ (.head _))) (by assumption) ?_ | refine c_block ?_ | refine c_skip ?_ | (refine c_cond_p (by exact rfl) (fun h => ?_) (fun h => ?_) <;> try (exfalso; omega))
          refine c_take 1 a (by exact rfl) hkd ?_
          refine o_mapup (c : Int) true (by exact rfl) (by exact rfl) (by exact rfl) (i := 0) (by exact rfl) rfl rfl ⟨by omega, by omega⟩ ?_
          rw [hput]
          repeat' first
            | refine k_then ?_ | refine c_region ?_ | refine s_nil ?_ | refine s_move (by exact rfl) (by exact rfl) ?_ | refine s_add (by exact rfl) (by exact rfl) (by exact rfl) (by omega) ?_ | refine k_blk ?_
          refine c_give (L := [_, _, _, _, _]) 1 a (by exact rfl) (by simp [kids, hf1l, haN]) ?_
          refine c_round (j + 1) [0, 0, 0, 0, 0] ?_ (by exact ⟨rfl, rfl, rfl, rfl, rfl, rfl, rfl, rfl, rfl, rfl, rfl, trivial⟩) (by omega) (by omega)
          rw [List.set_set, show (mapHP ekI Value.bool okI hd (setN (addN m1 c))) = mapK hd (some (addN m1 c)) from rfl, kids_put2 hhd, show ((List.range N).map (joinP A1 s i j)).set a (some (addN m1 c)) = (List.range N).map (joinP A1 s i (j + 1)) from by
            rw [← range_set (g := joinP A1 s i j) (g' := joinP A1 s i (j + 1)) (i := a) (fun w _ hw => by rw [hstep w, if_neg (fun h => hw h.1)]), hstep a, if_pos ⟨rfl, hca2⟩, hm1]
            rfl]
          rfl
      · repeat' first
          | refine k_then ?_ | refine c_seq ?_ | refine c_region ?_ | refine s_nil ?_ | refine s_move (by exact rfl) (by exact rfl) ?_ | refine s_lss (by exact rfl) (by exact rfl) (by exact rfl) ?_ | refine s_add (by exact rfl) (by exact rfl) (by exact rfl) (by omega) ?_ | refine c_exit ?_ | refine k_then_exit ?_ | refine k_blk ?_ | refine k_blk_eq ?_ | (refine c_cond_p (by exact rfl) (fun h => ?_) (fun h => ?_) <;> try (exfalso; omega))
        obtain rfl : j = s.length := by omega
        refine c_round (i + 1) [0, 0, 0, 0, 0] (by rw [joinP_next _ hil]; rfl) (by exact ⟨rfl, rfl, rfl, rfl, rfl, rfl, rfl, trivial⟩) (by omega) (by omega)
    · repeat' first
        | refine k_then ?_ | refine c_seq ?_ | refine c_region ?_ | refine s_nil ?_ | refine s_move (by exact rfl) (by exact rfl) ?_ | refine s_lss (by exact rfl) (by exact rfl) (by exact rfl) ?_ | refine c_exit ?_ | refine k_then_exit ?_ | refine k_blk ?_ | refine k_blk_eq ?_ | (refine c_cond_p (by exact rfl) (fun h => ?_) (fun h => ?_) <;> try (exfalso; omega))
      obtain rfl : i = s.length := by omega
      rw [joinP_all, ← hel]
      refine s_call (by exact rfl) (by exact rfl) (fun w h => fewest_ok vf hf1 N (elimF A x) w (rms_own h (.head _) (.tail _ (.head _))) (by omega)) ?_
      repeat' first
        | refine k_then ?_ | refine s_nil ?_ | refine s_assign (by exact rfl) (by exact rfl) ?_
      refine c_pick [2, 0, 0, 0, 0] (by exact rfl) ?_
      refine c_pushk 3 (by exact rfl) ?_
      refine c_round (elimF A x, T ++ [(x, s)], ho ++ [vs], hf1, vo2) [0, 0, 0, 0] ?_ ?_ ⟨hWF2, ?_, by simp [hol], hf1l, by simp only [List.length_append, List.length_singleton]; omega⟩ (by dsimp only; omega)
      · dsimp only
        rw [show (T ++ [(x, s)]).map Prod.fst = T.map Prod.fst ++ [x] from by simp, show (T ++ [(x, s)]).map Prod.snd = T.map Prod.snd ++ [s] from by simp, kids_append (by simpa using hol), List.length_append, stV_snoc (by simpa using hol.symm)]
        rfl
      · dsimp only
        rw [widthL_snoc]
        rw [show ((max (widthL T) s.length : Nat) : Int) = max (widthL T : Int) (s.length : Int) from by omega]
        exact ⟨rfl, rfl, rfl, rfl, trivial⟩
      · dsimp only
        rw [List.append_assoc, ← hT, hrun]
        rfl
end Go.Proofs.YtpajjnkmaebhcabGreat
end
section
namespace Fil
abbrev nearF (N : Nat) (l : List (Nat × Nat)) (v : Nat) : Option (List Nat) := if v < N then some (nearS l v) else none
/-- those of a list go, one behind the other -/
def goneF (A : Nat → Option (List Nat)) (l : List Nat) : Nat → Option (List Nat) := l.foldl (fun A u => takeF A u ((A u).getD [])) A
theorem goneF_ok {N : Nat} : ∀ (l : List Nat) (A : Nat → Option (List Nat)), WF N A → l.Nodup → (∀ u ∈ l, ∃ m, A u = some m) → WF N (goneF A l) ∧ (∀ u, goneF A l u = none ↔ u ∈ l ∨ A u = none) ∧ (∀ u m, goneF A l u = some m → ∃ m0, A u = some m0 ∧ m = m0.filter fun a => a ∉ l) := by
  intro l
  induction l with
  | nil => intro A h _ _; exact ⟨h, by simp [goneF], fun u m hm => ⟨m, hm, (List.filter_eq_self.2 (by simp)).symm⟩⟩
  | cons a l ih =>
    intro A h hn hs
    obtain ⟨m, hA⟩ := hs a (by simp)
    obtain ⟨hn1, hn2⟩ := List.nodup_cons.1 hn
    have hg : goneF A (a :: l) = goneF (takeF A a m) l := by simp [goneF, hA]
    rw [hg]
    obtain ⟨h1, h2, h3⟩ := ih (takeF A a m) (h.take hA) hn2 (fun u hu => by
      obtain ⟨m', h'⟩ := hs u (by simp [hu])
      exact ⟨_, (takeF_some h hA).2 ⟨fun e => hn1 (e ▸ hu), m', h', rfl⟩⟩)
    refine ⟨h1, fun u => ?_, fun u m' hm => ?_⟩
    · rw [h2, takeF_none (N := N), List.mem_cons]
      constructor
      · rintro (h | h | h)
        · exact .inl (.inr h)
        · exact .inl (.inl h)
        · exact .inr h
      · rintro ((h | h) | h)
        · exact .inr (.inl h)
        · exact .inl h
        · exact .inr (.inr h)
    · obtain ⟨m0, e1, e2⟩ := h3 u m' hm
      obtain ⟨hua, m1, e3, e4⟩ := (takeF_some h hA).1 e1
      refine ⟨m1, e3, ?_⟩
      rw [e2, e4, List.filter_filter]
      apply List.filter_congr
      intro x _
      simp only [List.mem_cons, not_or]
      by_cases h1 : x = a <;> by_cases h2 : x ∈ l <;> simp [h1, h2]
theorem leftN_gone {N : Nat} : ∀ (l : List Nat) (A : Nat → Option (List Nat)), WF N A → l.Nodup → (∀ u ∈ l, ∃ m, A u = some m) → leftN N (goneF A l) ≤ leftN N A := by
  intro l A h hn hs
  obtain ⟨_, h2, _⟩ := goneF_ok l A h hn hs
  refine List.countP_mono_left fun u _ hu => ?_
  cases ha : A u with
  | none => rw [(h2 u).2 (.inr ha)] at hu; simp at hu
  | some m => rfl
theorem green {N : Nat} {A : Nat → Option (List Nat)} {v : Nat} {l : List Nat} (h : WF N A) (hA : A v = some l) : WF N (goneF (takeF A v l) (sortN l)) ∧ leftN N (goneF (takeF A v l) (sortN l)) + 1 ≤ leftN N A ∧ (sortN l).Nodup ∧ ∀ u ∈ sortN l, u < N ∧ ∃ m, takeF A v l u = some m := by
  have hn : (sortN l).Nodup := (sortN_perm l).nodup_iff.2 (h.nd v l hA)
  have hm : ∀ u ∈ sortN l, u < N ∧ ∃ m, takeF A v l u = some m := fun u hu => by
    have hu : u ∈ l := (sortN_perm l).mem_iff.1 hu
    obtain ⟨h1, h2, m, h3⟩ := h.all hA u hu
    exact ⟨h1, _, (takeF_some h hA).2 ⟨h2, m, h3, rfl⟩⟩
  have h1 := goneF_ok (sortN l) (takeF A v l) (h.take hA) hn (fun u hu => (hm u hu).2)
  have h2 := leftN_gone (sortN l) (takeF A v l) (h.take hA) hn (fun u hu => (hm u hu).2)
  have h3 := leftN_take h hA
  exact ⟨h1.1, by omega, hn, hm⟩
end Fil
namespace Go.Sl
open Go Go.RowKit
end Go.Sl
namespace Go.Proofs.YtpajjnkmaebhcabGreat
open Go.RowKit Go.Sl Fil
set_option maxRecDepth 100000
set_option maxHeartbeats 8000000
set_option linter.unusedVariables false
set_option linter.unusedSimpArgs false
attribute [local irreducible] Code.wp wpList bodyPost wpQuiet Exit.then Exit.inBlock Post wpAnyH wpOp
end Go.Proofs.YtpajjnkmaebhcabGreat
end
section
set_option linter.unusedVariables false
namespace Fil
def gA (near : List (List Nat)) (gone : List Bool) (v : Nat) : Option (List Nat) := if gone.getD v false = true then none else some ((near.getD v []).filter fun u => !gone.getD u false)
/-- a number put behind the last one that is not greater -/
def posK (l : List Nat) (x : Nat) : Nat → Nat
  | 0 => 0
  | k + 1 => if x < l.getD k 0 then posK l x k else k + 1
def posL (l : List Nat) (x : Nat) : Nat := posK l x l.length
def putL' (l : List Nat) (x : Nat) : List Nat := l.take (posL l x) ++ [x] ++ l.drop (posL l x)
theorem posK_le (l : List Nat) (x : Nat) : ∀ k, posK l x k ≤ k
  | 0 => Nat.le_refl _
  | k + 1 => by
    rw [posK]
    have := posK_le l x k
    split <;> omega
theorem posK_gt (l : List Nat) (x : Nat) : ∀ k j, posK l x k ≤ j → j < k → x < l.getD j 0
  | 0, j, _, h => by omega
  | k + 1, j, h, hj => by
    rw [posK] at h
    split at h
    · by_cases e : j = k
      · subst e; assumption
      · exact posK_gt l x k j h (by omega)
    · omega
theorem posK_at (l : List Nat) (x : Nat) : ∀ k, 0 < posK l x k → l.getD (posK l x k - 1) 0 ≤ x
  | 0, h => by simp [posK] at h
  | k + 1, h => by
    rw [posK] at h ⊢
    split
    · rename_i hc
      rw [if_pos hc] at h
      exact posK_at l x k h
    · rename_i hc
      simpa using hc
theorem posL_le (l : List Nat) (x : Nat) : posL l x ≤ l.length := posK_le _ _ _
theorem putL_perm (l : List Nat) (x : Nat) : (putL' l x).Perm (l ++ [x]) := by
  have h : l ++ [x] = l.take (posL l x) ++ l.drop (posL l x) ++ [x] := by rw [List.take_append_drop]
  rw [h, putL', List.append_assoc, List.append_assoc]
  exact List.Perm.append_left _ List.perm_append_comm
theorem putL_length (l : List Nat) (x : Nat) : (putL' l x).length = l.length + 1 := by
  rw [(putL_perm l x).length_eq]; simp
theorem mem_putL {l : List Nat} {x u : Nat} : u ∈ putL' l x ↔ u ∈ l ∨ u = x := by
  rw [(putL_perm l x).mem_iff]; simp
theorem putL_sorted {l : List Nat} {x : Nat} (h : l.Pairwise fun a b => a ≤ b) : (putL' l x).Pairwise fun a b => a ≤ b := by
  have hlt : ∀ a ∈ l.take (posL l x), a ≤ x := by
    intro a ha
    obtain ⟨i, hi⟩ := List.mem_iff_getElem?.1 ha
    have hip : i < posL l x := by
      have := (List.getElem?_eq_some_iff.1 hi).1
      rw [List.length_take] at this
      omega
    rw [List.getElem?_take_of_lt hip] at hi
    have h1 := posK_at l x l.length (by show 0 < posL l x; omega)
    have hple := posL_le l x
    have hj : posL l x - 1 < l.length := by omega
    rw [List.getD_eq_getElem?_getD, List.getElem?_eq_getElem (by exact hj), Option.getD_some] at h1
    obtain ⟨hi1, hi2⟩ := List.getElem?_eq_some_iff.1 hi
    by_cases e : i = posL l x - 1
    · subst e; subst hi2; exact h1
    · have := List.pairwise_iff_getElem.1 h i (posL l x - 1) hi1 hj (by omega)
      rw [hi2] at this
      exact Nat.le_trans this h1
  have hgt : ∀ a ∈ l.drop (posL l x), x ≤ a := by
    intro a ha
    obtain ⟨i, hi⟩ := List.mem_iff_getElem?.1 ha
    rw [List.getElem?_drop] at hi
    obtain ⟨hi1, hi2⟩ := List.getElem?_eq_some_iff.1 hi
    have h1 := posK_gt l x l.length (posL l x + i) (by show posL l x ≤ _; omega) hi1
    rw [List.getD_eq_getElem?_getD, hi, Option.getD_some] at h1
    omega
  have hpair : (l.take (posL l x) ++ l.drop (posL l x)).Pairwise fun a b => a ≤ b := by rw [List.take_append_drop]; exact h
  obtain ⟨p1, p2, p3⟩ := List.pairwise_append.1 hpair
  rw [putL', List.append_assoc]
  refine List.pairwise_append.2 ⟨p1, List.pairwise_cons.2 ⟨fun a ha => hgt a ha, p2⟩, fun a ha b hb => ?_⟩
  rcases List.mem_cons.1 hb with rfl | hb
  · exact hlt a ha
  · exact p3 a ha b hb
theorem putL_eq {l : List Nat} {x : Nat} (h : l.Pairwise fun a b => a ≤ b) : putL' l x = sortN (l ++ [x]) :=
  List.Perm.eq_of_pairwise (le := fun a b => a ≤ b) (fun a b _ _ h1 h2 => Nat.le_antisymm h1 h2) (putL_sorted h) (sortN_sorted _) ((putL_perm l x).trans (sortN_perm _).symm)
def goneL (gone : List Bool) (l : List Nat) : List Bool := l.foldl (fun g u => g.set u true) gone
theorem goneL_snoc (gone : List Bool) (l : List Nat) (u : Nat) : goneL gone (l ++ [u]) = (goneL gone l).set u true := by simp [goneL]
theorem goneL_length : ∀ (l : List Nat) (gone : List Bool), (goneL gone l).length = gone.length
  | [], _ => rfl
  | u :: l, gone => by
    show (goneL (gone.set u true) l).length = _
    rw [goneL_length l]; simp
theorem set_true {gone : List Bool} {u a : Nat} (hu : u < gone.length) : (gone.set u true).getD a false = true ↔ a = u ∨ gone.getD a false = true := by
  rw [List.getD_eq_getElem?_getD, List.getElem?_set, List.getD_eq_getElem?_getD]
  by_cases e : u = a
  · subst e; simp [hu]
  · rw [if_neg e]
    exact ⟨.inr, fun h => h.elim (fun h => (e h.symm).elim) id⟩
theorem goneL_get : ∀ {l : List Nat} {gone : List Bool} {a : Nat}, (∀ u ∈ l, u < gone.length) → ((goneL gone l).getD a false = true ↔ a ∈ l ∨ gone.getD a false = true)
  | [], gone, a, _ => by simp [goneL]
  | u :: l, gone, a, h => by
    show (goneL (gone.set u true) l).getD a false = true ↔ _
    rw [goneL_get (fun x hx => by rw [List.length_set]; exact h x (by simp [hx])), set_true (h u (by simp)), List.mem_cons]
    constructor
    · rintro (h | h | h)
      · exact .inl (.inr h)
      · exact .inl (.inl h)
      · exact .inr h
    · rintro ((h | h) | h)
      · exact .inr (.inl h)
      · exact .inl h
      · exact .inr (.inr h)
def jr1 (l : List Nat) (i : Nat) (near : List (List Nat)) (k : Nat) : List (List Nat) := if i ≠ k ∧ l.getD k 0 ∉ near.getD (l.getD i 0) [] then near.set (l.getD i 0) (putL' (near.getD (l.getD i 0) []) (l.getD k 0)) else near
def jrI (l : List Nat) (near : List (List Nat)) (i j : Nat) : List (List Nat) := (List.range j).foldl (jr1 l i) near
def jrO (l : List Nat) (near : List (List Nat)) (i : Nat) : List (List Nat) := (List.range i).foldl (fun nr i => jrI l nr i l.length) near
theorem jrI_succ (l : List Nat) (near : List (List Nat)) (i j : Nat) : jrI l near i (j + 1) = jr1 l i (jrI l near i j) j := by simp [jrI, List.range_succ]
theorem jrO_succ (l : List Nat) (near : List (List Nat)) (i : Nat) : jrO l near (i + 1) = jrI l (jrO l near i) i l.length := by simp [jrO, List.range_succ]
structure NW (N : Nat) (near : List (List Nat)) : Prop where
  len : near.length = N
  nd : ∀ l ∈ near, l.Nodup
  lt : ∀ l ∈ near, ∀ u ∈ l, u < N
theorem NW.small {N : Nat} {near : List (List Nat)} (h : NW N near) {l : List Nat} (hl : l ∈ near) : l.length ≤ N := nodup_length (h.nd l hl) (h.lt l hl)
theorem NW.put {N : Nat} {near : List (List Nat)} (h : NW N near) {a x : Nat} (hx : x < N) (hn : x ∉ near.getD a []) : NW N (near.set a (putL' (near.getD a []) x)) where
  len := by rw [List.length_set, h.len]
  nd l hl := by
    rcases List.mem_or_eq_of_mem_set hl with h' | rfl
    · exact h.nd l h'
    · refine (putL_perm _ _).nodup_iff.2 (List.nodup_append.2 ⟨?_, by simp, fun y hy z hz e => ?_⟩)
      · rw [List.getD_eq_getElem?_getD]
        cases e : near[a]? with
        | none => simp
        | some m => exact h.nd m (List.mem_of_getElem? e)
      · obtain rfl : z = x := by simpa using hz
        subst e
        exact hn hy
  lt l hl u hu := by
    rcases List.mem_or_eq_of_mem_set hl with h' | rfl
    · exact h.lt l h' u hu
    · rcases mem_putL.1 hu with hu | rfl
      · rw [List.getD_eq_getElem?_getD] at hu
        cases e : near[a]? with
        | none => rw [e] at hu; simp at hu
        | some m => rw [e] at hu; exact h.lt m (List.mem_of_getElem? e) u hu
      · exact hx
theorem NW.jr1 {N : Nat} {near : List (List Nat)} (h : NW N near) {l : List Nat} (hl : ∀ u ∈ l, u < N) (i : Nat) {k : Nat} (hk : k < l.length) : NW N (jr1 l i near k) := by
  unfold Fil.jr1
  split
  · rename_i hc
    refine h.put ?_ hc.2
    rw [List.getD_eq_getElem?_getD, List.getElem?_eq_getElem hk]
    exact hl _ (List.getElem_mem hk)
  · exact h
theorem NW.jrI {N : Nat} {near : List (List Nat)} (h : NW N near) {l : List Nat} (hl : ∀ u ∈ l, u < N) (i : Nat) : ∀ j, j ≤ l.length → NW N (jrI l near i j)
  | 0, _ => h
  | j + 1, hj => by
    rw [jrI_succ]
    exact (NW.jrI h hl i j (by omega)).jr1 hl i (by omega)
theorem NW.jrO {N : Nat} {near : List (List Nat)} (h : NW N near) {l : List Nat} (hl : ∀ u ∈ l, u < N) : ∀ i, NW N (jrO l near i)
  | 0 => h
  | i + 1 => by
    rw [jrO_succ]
    exact (NW.jrO h hl i).jrI hl i _ (Nat.le_refl _)
/-- who is in a row then -/
theorem mem_jrI {N : Nat} {near : List (List Nat)} (h : NW N near) {l : List Nat} (hl : ∀ u ∈ l, u < N) {i : Nat} (hi : i < l.length) : ∀ (j : Nat), j ≤ l.length → ∀ (a x : Nat), x ∈ (jrI l near i j).getD a [] ↔ x ∈ near.getD a [] ∨ (a = l.getD i 0 ∧ ∃ k, k < j ∧ k ≠ i ∧ x = l.getD k 0)
  | 0, _, a, x => by
    show x ∈ near.getD a [] ↔ _
    exact ⟨.inl, fun h => h.elim id fun ⟨_, k, hk, _⟩ => by omega⟩
  | j + 1, hj, a, x => by
    have ih := mem_jrI h hl hi j (by omega)
    have hW := h.jrI hl i j (by omega)
    have hiN : l.getD i 0 < N := by
      rw [List.getD_eq_getElem?_getD, List.getElem?_eq_getElem hi]
      exact hl _ (List.getElem_mem hi)
    rw [jrI_succ]
    have hstep : x ∈ (Fil.jr1 l i (Fil.jrI l near i j) j).getD a [] ↔ x ∈ (Fil.jrI l near i j).getD a [] ∨ (a = l.getD i 0 ∧ j ≠ i ∧ x = l.getD j 0) := by
      unfold Fil.jr1
      split
      · rename_i hc
        rw [List.getD_eq_getElem?_getD, List.getElem?_set]
        by_cases e : l.getD i 0 = a
        · subst e
          rw [if_pos rfl, if_pos (by rw [hW.len]; exact hiN), Option.getD_some, mem_putL]
          exact ⟨fun h => h.elim .inl fun h => .inr ⟨rfl, fun e => hc.1 e.symm, h⟩, fun h => h.elim .inl fun h => .inr h.2.2⟩
        · rw [if_neg e, List.getD_eq_getElem?_getD]
          exact ⟨.inl, fun h => h.elim id fun h => (e h.1.symm).elim⟩
      · rename_i hc
        refine ⟨.inl, fun h => h.elim id fun ⟨h1, h2, h3⟩ => ?_⟩
        subst h1
        rw [h3]
        refine Decidable.byContradiction fun hn => hc ⟨fun e => h2 e.symm, hn⟩
    rw [hstep, ih]
    constructor
    · rintro ((h | ⟨h1, k, h2, h3, h4⟩) | ⟨h1, h2, h3⟩)
      · exact .inl h
      · exact .inr ⟨h1, k, by omega, h3, h4⟩
      · exact .inr ⟨h1, j, by omega, h2, h3⟩
    · rintro (h | ⟨h1, k, h2, h3, h4⟩)
      · exact .inl (.inl h)
      · by_cases e : k = j
        · subst e; exact .inr ⟨h1, h3, h4⟩
        · exact .inl (.inr ⟨h1, k, by omega, h3, h4⟩)
theorem mem_jrO {N : Nat} {near : List (List Nat)} (h : NW N near) {l : List Nat} (hl : ∀ u ∈ l, u < N) (hn : l.Nodup) : ∀ (i : Nat), i ≤ l.length → ∀ (a x : Nat), x ∈ (jrO l near i).getD a [] ↔ x ∈ near.getD a [] ∨ (a ∈ l.take i ∧ x ∈ l ∧ x ≠ a)
  | 0, _, a, x => by
    show x ∈ near.getD a [] ↔ _
    simp
  | i + 1, hi, a, x => by
    have ih := mem_jrO h hl hn i (by omega) a x
    obtain ⟨c, hc⟩ : ∃ c, l[i]? = some c := ⟨_, List.getElem?_eq_getElem (by omega)⟩
    have hg : l.getD i 0 = c := by rw [List.getD_eq_getElem?_getD, hc]; rfl
    rw [jrO_succ, mem_jrI (h.jrO hl i) hl (by omega) _ (Nat.le_refl _), ih, List.take_add_one, hc, hg]
    have key : (∃ k, k < l.length ∧ k ≠ i ∧ x = l.getD k 0) ↔ x ∈ l ∧ x ≠ c := by
      constructor
      · rintro ⟨k, hk, hki, rfl⟩
        rw [List.getD_eq_getElem?_getD, List.getElem?_eq_getElem hk, Option.getD_some]
        refine ⟨List.getElem_mem hk, fun e => hki ?_⟩
        have hii := (List.getElem?_eq_some_iff.1 hc)
        obtain ⟨h1, h2⟩ := hii
        exact (List.getElem?_inj hk hn).1 (by rw [List.getElem?_eq_getElem hk, List.getElem?_eq_getElem h1, e, h2])
      · rintro ⟨hx, hxc⟩
        obtain ⟨k, hk⟩ := List.mem_iff_getElem?.1 hx
        refine ⟨k, (List.getElem?_eq_some_iff.1 hk).1, fun e => ?_, by rw [List.getD_eq_getElem?_getD, hk]; rfl⟩
        subst e
        rw [hc] at hk
        exact hxc (by simpa using hk.symm)
    rw [key]
    simp only [Option.toList_some, List.mem_append, List.mem_singleton]
    constructor
    · rintro ((h | ⟨h1, h2, h3⟩) | ⟨h1, h2, h3⟩)
      · exact .inl h
      · exact .inr ⟨.inl h1, h2, h3⟩
      · exact .inr ⟨.inr h1, h2, h1 ▸ h3⟩
    · rintro (h | ⟨h1 | h1, h2, h3⟩)
      · exact .inl (.inl h)
      · exact .inl (.inr ⟨h1, h2, h3⟩)
      · exact .inr ⟨h1, h2, h1 ▸ h3⟩
def leftL (near : List (List Nat)) (gone : List Bool) (v : Nat) : List Nat := (near.getD v []).filter fun u => !gone.getD u false
structure Rel (N : Nat) (near : List (List Nat)) (gone : List Bool) (A : Nat → Option (List Nat)) : Prop where
  wf : WF N A
  nw : NW N near
  len : gone.length = N
  none : ∀ v, v < N → (A v = none ↔ gone.getD v false = true)
  some : ∀ v m, A v = some m → ∀ u, u ∈ m ↔ u ∈ near.getD v [] ∧ gone.getD u false = false
theorem Rel.few {N : Nat} {near : List (List Nat)} {gone : List Bool} {A : Nat → Option (List Nat)} (h : Rel N near gone A) : fewI (gA near gone) near.length = fewI A N := by
  rw [h.nw.len]
  refine fewI_congr fun v hv => ?_
  have h1 := h.none v hv
  unfold gA
  cases hA : A v with
  | none => rw [hA] at h1; rw [if_pos (h1.1 rfl)]
  | some m =>
    rw [hA] at h1
    rw [if_neg fun e => by simpa using h1.2 e]
    have hnd : (near.getD v []).Nodup := by
      rw [List.getD_eq_getElem?_getD, List.getElem?_eq_getElem (by rw [h.nw.len]; exact hv)]
      exact h.nw.nd _ (List.getElem_mem _)
    have hp := (List.perm_ext_iff_of_nodup (hnd.sublist List.filter_sublist) (h.wf.nd v m hA) (l₁ := (near.getD v []).filter fun u => !gone.getD u false)).2 fun u => by
      rw [h.some v m hA u, List.mem_filter]
      simp
    simp only [Option.map_some, hp.length_eq]
theorem Rel.left {N : Nat} {near : List (List Nat)} {gone : List Bool} {A : Nat → Option (List Nat)} (h : Rel N near gone A) {v : Nat} {l : List Nat} (hA : A v = Option.some l) : (leftL near (gone.set v true) v).Perm l := by
  have hv := h.wf.lt hA
  have hnd : (near.getD v []).Nodup := by
    rw [List.getD_eq_getElem?_getD, List.getElem?_eq_getElem (by rw [h.nw.len]; exact hv)]
    exact h.nw.nd _ (List.getElem_mem _)
  refine (List.perm_ext_iff_of_nodup (hnd.sublist List.filter_sublist) (h.wf.nd v l hA)).2 fun u => ?_
  rw [List.mem_filter, h.some v l hA u]
  have hs := set_true (gone := gone) (u := v) (a := u) (by rw [h.len]; exact hv)
  have hne : u ∈ near.getD v [] → gone.getD u false = false → u ≠ v := fun h1 h2 => h.wf.ne v l hA u ((h.some v l hA u).2 ⟨h1, h2⟩)
  constructor
  · rintro ⟨h1, h2⟩
    refine ⟨h1, ?_⟩
    cases hg : gone.getD u false
    · rfl
    · rw [hs.2 (.inr hg)] at h2; simp at h2
  · rintro ⟨h1, h2⟩
    refine ⟨h1, ?_⟩
    cases hg : (gone.set v true).getD u false
    · rfl
    · rcases hs.1 hg with e | e
      · exact (hne h1 h2 e).elim
      · rw [h2] at e; simp at e
theorem Rel.green {N : Nat} {near : List (List Nat)} {gone : List Bool} {A : Nat → Option (List Nat)} (h : Rel N near gone A) {v : Nat} {l : List Nat} (hA : A v = Option.some l) : Rel N near (goneL (gone.set v true) (near.getD v [])) (goneF (takeF A v l) (sortN l)) := by
  have hv := h.wf.lt hA
  obtain ⟨g1, g2, g3, g4⟩ := Fil.green h.wf hA
  obtain ⟨_, e2, e3⟩ := goneF_ok (sortN l) _ (h.wf.take hA) g3 (fun u hu => (g4 u hu).2)
  have hrow : ∀ u ∈ near.getD v [], u < (gone.set v true).length := by
    intro u hu
    rw [List.length_set, h.len]
    rw [List.getD_eq_getElem?_getD, List.getElem?_eq_getElem (by rw [h.nw.len]; exact hv)] at hu
    exact h.nw.lt _ (List.getElem_mem _) u hu
  have hgone : ∀ a, (goneL (gone.set v true) (near.getD v [])).getD a false = true ↔ a ∈ near.getD v [] ∨ a = v ∨ gone.getD a false = true := fun a => by
    rw [goneL_get hrow, set_true (by rw [h.len]; exact hv)]
  have hl : ∀ u, u ∈ sortN l ↔ u ∈ near.getD v [] ∧ gone.getD u false = false := fun u => by rw [(sortN_perm l).mem_iff]; exact h.some v l hA u
  refine ⟨g1, h.nw, by rw [goneL_length, List.length_set, h.len], fun a ha => ?_, fun a m hm u => ?_⟩
  · rw [e2, takeF_none (N := N), hgone, hl, h.none a ha]
    constructor
    · rintro (⟨h1, _⟩ | h1 | h1)
      · exact .inl h1
      · exact .inr (.inl h1)
      · exact .inr (.inr h1)
    · rintro (h1 | h1 | h1)
      · cases hg : gone.getD a false
        · exact .inl ⟨h1, rfl⟩
        · exact .inr (.inr rfl)
      · exact .inr (.inl h1)
      · exact .inr (.inr h1)
  · obtain ⟨m0, h1, rfl⟩ := e3 a m hm
    obtain ⟨hav, m1, h2, rfl⟩ := (takeF_some h.wf hA).1 h1
    rw [List.mem_filter, List.mem_filter, h.some a m1 h2 u]
    have hg := hgone u
    simp only [decide_eq_true_eq, hl]
    constructor
    · rintro ⟨⟨⟨h3, h4⟩, h5⟩, h6⟩
      refine ⟨h3, ?_⟩
      cases hc : (goneL (gone.set v true) (near.getD v [])).getD u false
      · rfl
      · rcases hg.1 hc with e | e | e
        · exact (h6 ⟨e, h4⟩).elim
        · exact (h5 e).elim
        · rw [h4] at e; simp at e
    · rintro ⟨h3, h4⟩
      have hn : ¬ (u ∈ near.getD v [] ∨ u = v ∨ gone.getD u false = true) := fun e => by rw [hg.2 e] at h4; simp at h4
      refine ⟨⟨⟨h3, ?_⟩, fun e => hn (.inr (.inl e))⟩, fun e => hn (.inl e.1)⟩
      cases hc : gone.getD u false
      · rfl
      · exact (hn (.inr (.inr hc))).elim
theorem Rel.elim {N : Nat} {near : List (List Nat)} {gone : List Bool} {A : Nat → Option (List Nat)} (h : Rel N near gone A) {v : Nat} {l : List Nat} (hA : A v = Option.some l) : Rel N (jrO (leftL near (gone.set v true) v) near (leftL near (gone.set v true) v).length) (gone.set v true) (elimF A v) := by
  have hv := h.wf.lt hA
  have hp := h.left hA
  have hnd : (leftL near (gone.set v true) v).Nodup := hp.nodup_iff.2 (h.wf.nd v l hA)
  have hlt : ∀ u ∈ leftL near (gone.set v true) v, u < N := fun u hu => (h.wf.all hA u (hp.mem_iff.1 hu)).1
  have hmem := mem_jrO h.nw hlt hnd _ (Nat.le_refl _)
  rw [List.take_length] at hmem
  refine ⟨h.wf.elim hA, h.nw.jrO hlt _, by rw [List.length_set, h.len], fun a ha => ?_, fun a m hm u => ?_⟩
  · rw [elimF, hA, Option.getD_some, joinF_none, takeF_none (N := N), set_true (by rw [h.len]; exact hv), h.none a ha]
  · rw [elimF, hA, Option.getD_some] at hm
    obtain ⟨m0, h1, rfl⟩ := joinF_some.1 hm
    obtain ⟨hav, m1, h2, rfl⟩ := (takeF_some h.wf hA).1 h1
    have hs := set_true (gone := gone) (u := v) (a := u) (by rw [h.len]; exact hv)
    have hs' : (gone.set v true).getD u false = false ↔ u ≠ v ∧ gone.getD u false = false := by
      cases hc : (gone.set v true).getD u false
      · refine ⟨fun _ => ?_, fun _ => rfl⟩
        have hn : ¬ (u = v ∨ gone.getD u false = true) := fun e => by rw [hs.2 e] at hc; simp at hc
        exact ⟨fun e => hn (.inl e), by cases hd : gone.getD u false; rfl; exact (hn (.inr hd)).elim⟩
      · refine ⟨fun e => by simp at e, fun ⟨e1, e2⟩ => ?_⟩
        rcases hs.1 hc with e | e
        · exact (e1 e).elim
        · rw [e2] at e; simp at e
    rw [hmem, hs', hp.mem_iff, hp.mem_iff]
    have hb : u ∈ (m1.filter fun a => decide (a ≠ v)) ↔ (u ∈ near.getD a [] ∧ gone.getD u false = false) ∧ u ≠ v := by
      rw [List.mem_filter, h.some a m1 h2 u]; simp
    have hal := (h.wf.all hA)
    have hul : u ∈ l → u ≠ v ∧ gone.getD u false = false := fun hu => ⟨h.wf.ne v l hA u hu, ((h.some v l hA u).1 hu).2⟩
    by_cases hain : a ∈ sortN l
    · have hain' : a ∈ l := (sortN_perm l).mem_iff.1 hain
      rw [if_pos hain, mem_addL, hb, (sortN_perm l).mem_iff]
      constructor
      · rintro (⟨⟨h3, h4⟩, h5⟩ | ⟨h3, h4⟩)
        · exact ⟨.inl h3, h5, h4⟩
        · exact ⟨.inr ⟨hain', h3, h4⟩, hul h3⟩
      · rintro ⟨h3 | ⟨_, h3, h4⟩, h5, h6⟩
        · exact .inl ⟨⟨h3, h6⟩, h5⟩
        · exact .inr ⟨h3, h4⟩
    · have hain' : a ∉ l := fun e => hain ((sortN_perm l).mem_iff.2 e)
      rw [if_neg hain, hb]
      constructor
      · rintro ⟨⟨h3, h4⟩, h5⟩
        exact ⟨.inl h3, h5, h4⟩
      · rintro ⟨h3 | ⟨h3, _⟩, h5, h6⟩
        · exact ⟨⟨h3, h6⟩, h5⟩
        · exact (hain' h3).elim
theorem nearL_get {N v : Nat} {ab : List (Nat × Nat)} (hv : v < N) : ((List.range N).map (nearS ab)).getD v [] = nearS ab v := by
  simp [List.getD_eq_getElem?_getD, hv]
theorem NW.first {n : Int} {es : List E} (hR : RightG n es) (hnd : ∀ u, (nearS (tn es) u).Nodup) : NW n.toNat ((List.range n.toNat).map (nearS (tn es))) where
  len := by simp
  nd l hl := by
    obtain ⟨v, _, rfl⟩ := List.mem_map.1 hl
    exact hnd v
  lt l hl u hu := by
    obtain ⟨v, hv, rfl⟩ := List.mem_map.1 hl
    exact ((WF.near hR hnd).all (v := v) (if_pos (by simpa using hv)) u hu).1
theorem Rel.first {n : Int} {es : List E} (hR : RightG n es) (hnd : ∀ u, (nearS (tn es) u).Nodup) : Rel n.toNat ((List.range n.toNat).map (nearS (tn es))) (List.replicate n.toNat false) (nearF n.toNat (tn es)) where
  wf := WF.near hR hnd
  nw := NW.first hR hnd
  len := by simp
  none v hv := by simp [nearF, hv, List.getD_eq_getElem?_getD]
  some v m hm u := by
    have hv := (WF.near hR hnd).lt hm
    rw [nearL_get hv]
    obtain rfl : nearS (tn es) v = m := by simpa [nearF, hv] using hm
    refine ⟨fun h => ⟨h, ?_⟩, fun h => h.1⟩
    simp only [List.getD_eq_getElem?_getD, List.getElem?_replicate]
    split <;> rfl
end Fil
end
section
namespace Go.Proofs.YtpajjnkmaebhcabGreat
open Go.RowKit Go.Sl Fil
set_option maxRecDepth 100000
set_option maxHeartbeats 8000000
set_option linter.unusedVariables false
set_option linter.unusedSimpArgs false
attribute [local irreducible] Code.wp wpList bodyPost wpQuiet Exit.then Exit.inBlock Post wpAnyH wpOp
theorem nV_one (l : List Nat) : ∀ u ∈ nV l, u.oneCell' = true := by
  intro u hu
  obtain ⟨k, -, rfl⟩ := List.mem_map.1 hu
  rfl
end Go.Proofs.YtpajjnkmaebhcabGreat
end
section
namespace Fil
/-- how many of an ascending list are less -/
def posB : List Nat → Nat → Nat
  | [], _ => 0
  | a :: l, x => if a < x then posB l x + 1 else 0
theorem posB_eq : ∀ {l : List Nat} {x p : Nat}, p ≤ l.length → (∀ j y, j < p → l[j]? = some y → y < x) → (∀ y, l[p]? = some y → x ≤ y) → posB l x = p
  | [], x, p, hp, _, _ => by simp at hp; simp [posB, hp]
  | a :: l, x, 0, hp, h1, h2 => by
    have := h2 a rfl
    rw [posB, if_neg (by omega)]
  | a :: l, x, p + 1, hp, h1, h2 => by
    have := h1 0 a (by omega) rfl
    rw [posB, if_pos this, posB_eq (p := p) (by simpa using hp) (fun j y hj hy => h1 (j + 1) y (by omega) (by simpa using hy)) (fun y hy => h2 y (by simpa using hy))]
def Asc (l : List Nat) : Prop := l.Pairwise fun a b => a < b
theorem Asc.get {l : List Nat} (h : Asc l) {i j a b : Nat} (ha : l[i]? = some a) (hb : l[j]? = some b) (hij : i < j) : a < b := by
  obtain ⟨h1, rfl⟩ := List.getElem?_eq_some_iff.1 ha
  obtain ⟨h2, rfl⟩ := List.getElem?_eq_some_iff.1 hb
  exact List.pairwise_iff_getElem.1 h i j h1 h2 hij
end Fil
namespace Go.Proofs.YtpajjnkmaebhcabGreat
open Go.RowKit Go.Sl Fil
set_option maxRecDepth 100000
set_option maxHeartbeats 8000000
set_option linter.unusedVariables false
set_option linter.unusedSimpArgs false
attribute [local irreducible] Code.wp wpList bodyPost wpQuiet Exit.then Exit.inBlock Post wpAnyH wpOp
theorem sisNaN_ok (a : Int) (w : World) : Calls Tryz.prog 153 #[.int .i64 a] w (Post w No (Just (.bool false))) := by
  refine enter0 (vs := [_]) Tryz.func153 rfl Tryz.ntmps153 rfl ?_
  repeat' first
    | refine k_then ?_ | refine c_seq ?_ | refine c_region ?_ | refine s_nil ?_ | refine s_move (by exact rfl) (by exact rfl) ?_ | refine s_assign (by exact rfl) (by exact rfl) ?_ | refine s_neq (by exact rfl) (by exact rfl) (by exact rfl) ?_ | refine c_ret ?_ | fail
  refine ret1 [] rfl rfl rfl ⟨by simp, rfl⟩
theorem cmpLess_ok (a b : Int) (w : World) : Calls Tryz.prog 110 #[.int .i64 a, .int .i64 b] w (Post w No (Just (.bool (decide (a < b))))) := by
  refine enter0 (vs := [_, _]) Tryz.func110 rfl Tryz.ntmps110 rfl ?_
  repeat' first
    | refine k_then ?_ | refine c_seq ?_ | refine c_region ?_ | refine s_nil ?_ | refine s_move (by exact rfl) (by exact rfl) ?_ | refine s_assign (by exact rfl) (by exact rfl) ?_ | fail
  refine s_call (by exact rfl) (by exact rfl) (fun w hs => isNaN_ok _ w) ?_
  repeat' first
    | refine k_then ?_ | refine s_nil ?_ | refine s_move (by exact rfl) (by exact rfl) ?_ | refine s_assign (by exact rfl) (by exact rfl) ?_ | refine s_pick_f (by exact rfl) (by exact rfl) (by exact rfl) ?_ | refine c_ret ?_ | refine g_skip (by exact rfl) (by exact rfl) (by exact rfl) (by exact rfl) ?_ | refine w_move (by exact rfl) (by exact rfl) (by exact rfl) (by exact rfl) ?_ | refine w_lss (by exact rfl) (by exact rfl) (by exact rfl) (by exact rfl) (by exact rfl) ?_ | fail
  all_goals refine ret1 [] rfl rfl rfl ⟨rfl, rfl⟩
theorem Contains_ok (v : Value) (l : List Nat) (x : Nat) (w : World) (hs : Shp v l.length) (hr : RO w No v (nV l)) :
    Calls Tryz.prog 68 #[v, .int .i64 (x : Int)] w (Post w No (Just (.bool (decide (x ∈ l))))) := by
  refine enter0 (vs := [_, _]) Tryz.func68 rfl Tryz.ntmps68 rfl ?_
  repeat' first
    | refine k_then ?_ | refine c_seq ?_ | refine c_region ?_ | refine s_nil ?_ | refine s_move (by exact rfl) (by exact rfl) ?_ | refine s_assign (by exact rfl) (by exact rfl) ?_ | fail
  refine s_call (by exact rfl) (by exact rfl) (fun w h => Index_ok v l x w hs (ro_old h hr)) ?_
  repeat' first
    | refine k_then ?_ | refine s_nil ?_ | refine s_assign (by exact rfl) (by exact rfl) ?_ | refine s_geq (by exact rfl) (by exact rfl) (by exact rfl) ?_ | refine c_ret ?_ | fail
  refine ret1 [] rfl rfl rfl ⟨congrArg Value.bool ?_, rfl⟩
  cases h : l.findIdx? fun y => decide (y = x) with
  | none =>
    have := List.findIdx?_eq_none_iff.1 h
    rw [decide_eq_false (p := x ∈ l) fun hx => by simpa using this x hx]
    simp
  | some i =>
    obtain ⟨h1, h2, _⟩ := List.findIdx?_eq_some_iff_getElem.1 h
    rw [decide_eq_true (p := x ∈ l) (by rw [← of_decide_eq_true h2]; exact List.getElem_mem h1)]
    simp
theorem BinarySearch_ok (v : Value) (l : List Nat) (x : Nat) (w : World) (hs : Shp v l.length) (hr : RO w No v (nV l)) (hasc : Asc l) (hl : l.length ≤ 1048576) :
    Calls Tryz.prog 136 #[v, .int .i64 (x : Int)] w (Post w No (Just (.tuple #[.int .i64 (posB l x : Int), .bool (decide (x ∈ l))]))) := by
  refine enter0 (vs := [_, _]) Tryz.func136 rfl Tryz.ntmps136 rfl ?_
  repeat' first
    | refine k_then ?_ | refine c_seq ?_ | refine c_region ?_ | refine s_nil ?_ | refine s_move (by exact rfl) (by exact rfl) ?_ | refine s_assign (by exact rfl) (by exact rfl) ?_ | refine s_len (by exact rfl) (by exact rfl) (by assumption) ?_ | refine c_block ?_ | fail
  refine c_loop (fun x2 : Nat × Nat => x2.1 ≤ x2.2 ∧ x2.2 ≤ l.length ∧ (∀ j y, j < x2.1 → l[j]? = some y → y < x) ∧ (∀ j y, x2.2 ≤ j → l[j]? = some y → x ≤ y)) (fun x2 => [(0, v), (1, .int .i64 (x : Int)), (6, .int .i64 (l.length : Int)), (7, .int .i64 (x2.1 : Int)), (8, .int .i64 (x2.2 : Int))]) (fun _ => []) (fun x2 => x2.2 - x2.1) (0, l.length) [] ⟨by omega, by omega, by intro j y h; omega, fun j y h1 h2 => by have := (List.getElem?_eq_some_iff.1 h2).1; dsimp only at h1; omega⟩ rfl ⟨rfl, rfl, rfl, rfl, rfl, trivial⟩ ?_
  rintro ⟨lo, hi⟩ ⟨h1, h2, h3, h4⟩
  dsimp only at h1 h2 h3 h4 ⊢
  by_cases hlt : lo < hi
  · have hmid : (lo + hi) / 2 < l.length := by omega
    obtain ⟨c, hc⟩ : ∃ c, l[(lo + hi) / 2]? = some c := ⟨_, List.getElem?_eq_getElem hmid⟩
    have hcc : (nV l)[((lo + hi) / 2) * 1]? = some (.int .i64 (c : Int)) := by simp only [Nat.mul_one, nV, List.getElem?_map, hc]; rfl
    repeat' first
      | refine k_then ?_ | refine c_seq ?_ | refine c_region ?_ | refine s_nil ?_ | refine s_move (by exact rfl) (by exact rfl) ?_ | refine s_lss (by exact rfl) (by exact rfl) (by exact rfl) ?_ | refine s_add (by exact rfl) (by exact rfl) (by exact rfl) (by omega) ?_ | refine c_block ?_ | refine c_skip ?_ | (refine c_cond_p (by exact rfl) (fun h => ?_) (fun h => ?_) <;> try (exfalso; omega)) | refine s_conv (by exact rfl) (by exact rfl) (by refine ⟨?_, ?_⟩ <;> simp [IntKind.min, IntKind.max, IntKind.signed, IntKind.bits] <;> omega) ?_ | fail
    refine s_shr (((lo + hi) / 2 : Nat) : Int) rfl (by exact rfl) (by exact rfl) (by exact rfl) ⟨by omega, by omega⟩ (by rw [show (2 : Int) ^ (1 : Int).toNat = 2 from rfl]; omega) ?_
    generalize hm : (lo + hi) / 2 = m at *
    repeat' first
      | refine k_then ?_ | refine c_seq ?_ | refine c_region ?_ | refine s_nil ?_ | refine s_move (by exact rfl) (by exact rfl) ?_ | refine s_assign (by exact rfl) (by exact rfl) ?_ | refine s_idx (by exact rfl) (by exact rfl) (by exact rfl) (by assumption) (by first | assumption | omega) ?_ | refine s_ld_ro (by exact rfl) (by exact rfl) (by assumption) (by assumption) ?_ | refine s_conv (by exact rfl) (by exact rfl) (by refine ⟨?_, ?_⟩ <;> simp [IntKind.min, IntKind.max, IntKind.signed, IntKind.bits] <;> omega) ?_ | fail
    refine s_call (by exact rfl) (by exact rfl) (fun w h => cmpLess_ok c x w) ?_
    by_cases hcx : c < x
    · rw [decide_eq_true (by omega)]
      repeat' first
        | refine k_then ?_ | refine c_region ?_ | refine s_nil ?_ | refine s_move (by exact rfl) (by exact rfl) ?_ | refine s_assign (by exact rfl) (by exact rfl) ?_ | refine s_add (by exact rfl) (by exact rfl) (by exact rfl) (by omega) ?_ | refine k_blk ?_ | refine c_cond_t (by exact rfl) ?_ | fail
      refine c_round (m + 1, hi) [] (by exact rfl) (by exact ⟨rfl, rfl, rfl, rfl, rfl, trivial⟩) ⟨by dsimp only; omega, h2, fun j y hj hy => ?_, h4⟩ (by dsimp only; omega)
      dsimp only at hj
      by_cases e : j = m
      · subst e; rw [hc] at hy; obtain rfl : c = y := by simpa using hy
        exact hcx
      · exact Nat.lt_trans (hasc.get hy hc (by omega)) hcx
    · rw [decide_eq_false (by omega)]
      repeat' first
        | refine k_then ?_ | refine c_region ?_ | refine s_nil ?_ | refine s_move (by exact rfl) (by exact rfl) ?_ | refine s_assign (by exact rfl) (by exact rfl) ?_ | refine k_blk ?_ | refine c_cond_f (by exact rfl) ?_ | fail
      refine c_round (lo, m) [] (by exact rfl) (by exact ⟨rfl, rfl, rfl, rfl, rfl, trivial⟩) ⟨by dsimp only; omega, by dsimp only; omega, h3, fun j y hj hy => ?_⟩ (by dsimp only; omega)
      dsimp only at hj
      by_cases e : j = m
      · subst e; rw [hc] at hy; obtain rfl : c = y := by simpa using hy
        omega
      · have := hasc.get hc hy (by omega)
        omega
  · obtain rfl : lo = hi := by omega
    have hp : posB l x = lo := posB_eq h2 h3 (fun y hy => h4 lo y (Nat.le_refl _) hy)
    by_cases hlo : lo < l.length
    · obtain ⟨c, hc⟩ : ∃ c, l[lo]? = some c := ⟨_, List.getElem?_eq_getElem hlo⟩
      have hcc : (nV l)[lo * 1]? = some (.int .i64 (c : Int)) := by simp [nV, hc]
      by_cases hcx : c = x
      · repeat' first
          | refine k_then ?_ | refine c_seq ?_ | refine c_region ?_ | refine s_nil ?_ | refine s_move (by exact rfl) (by exact rfl) ?_ | refine s_assign (by exact rfl) (by exact rfl) ?_ | refine s_lss (by exact rfl) (by exact rfl) (by exact rfl) ?_ | refine s_pick_t (by exact rfl) (by exact rfl) (by exact rfl) ?_ | refine c_exit ?_ | refine c_ret ?_ | refine k_then_exit ?_ | refine k_blk_eq ?_ | (refine c_cond_p (by exact rfl) (fun h => ?_) (fun h => ?_) <;> try (exfalso; omega)) | (refine g_case (by exact rfl) (by exact rfl) (fun h => ?_) (fun h => ?_) <;> try (exfalso; omega)) | refine g_skip (by exact rfl) (by exact rfl) (by exact rfl) (by exact rfl) ?_ | refine w_move (by exact rfl) (by exact rfl) (by exact rfl) (by exact rfl) ?_ | refine w_eql (by exact rfl) (by exact rfl) (by exact rfl) (by exact rfl) (by exact rfl) ?_ | refine w_idx (by exact rfl) (by exact rfl) (by exact rfl) (by exact rfl) (by exact rfl) (by assumption) (by first | assumption | omega) ?_ | refine w_pick_t (by exact rfl) (by exact rfl) (by exact rfl) (by exact rfl) (by exact rfl) ?_ | refine w_ld_ro (by exact rfl) (by exact rfl) (by exact rfl) (by exact rfl) (by assumption) (by assumption) ?_ | fail
        refine ret2 [] rfl rfl rfl rfl ⟨?_, rfl⟩
        rw [hp, decide_eq_true (p := x ∈ l) (by rw [← hcx]; exact List.mem_of_getElem? hc)]
      · repeat' first
          | refine k_then ?_ | refine c_seq ?_ | refine c_region ?_ | refine s_nil ?_ | refine s_move (by exact rfl) (by exact rfl) ?_ | refine s_lss (by exact rfl) (by exact rfl) (by exact rfl) ?_ | refine c_exit ?_ | refine k_then_exit ?_ | refine k_blk_eq ?_ | (refine c_cond_p (by exact rfl) (fun h => ?_) (fun h => ?_) <;> try (exfalso; omega)) | (refine g_case (by exact rfl) (by exact rfl) (fun h => ?_) (fun h => ?_) <;> try (exfalso; omega)) | refine w_move (by exact rfl) (by exact rfl) (by exact rfl) (by exact rfl) ?_ | refine w_eql (by exact rfl) (by exact rfl) (by exact rfl) (by exact rfl) (by exact rfl) ?_ | refine w_idx (by exact rfl) (by exact rfl) (by exact rfl) (by exact rfl) (by exact rfl) (by assumption) (by first | assumption | omega) ?_ | refine w_ld_ro (by exact rfl) (by exact rfl) (by exact rfl) (by exact rfl) (by assumption) (by assumption) ?_ | refine g_on (by exact rfl) (by exact rfl) ?_ | fail
        refine s_call (by exact rfl) (by exact rfl) (fun w h => sisNaN_ok _ w) ?_
        repeat' first
          | refine k_then ?_ | refine s_nil ?_ | refine s_assign (by exact rfl) (by exact rfl) ?_ | refine s_pick_t (by exact rfl) (by exact rfl) (by exact rfl) ?_ | refine c_ret ?_ | refine g_skip (by exact rfl) (by exact rfl) (by exact rfl) (by exact rfl) ?_ | refine w_move (by exact rfl) (by exact rfl) (by exact rfl) (by exact rfl) ?_ | refine w_pick_f (by exact rfl) (by exact rfl) (by exact rfl) (by exact rfl) (by exact rfl) ?_ | fail
        refine ret2 [] rfl rfl rfl rfl ⟨?_, rfl⟩
        rw [hp, decide_eq_false (p := x ∈ l) fun hx => ?_]
        obtain ⟨j, hj⟩ := List.mem_iff_getElem?.1 hx
        rcases Nat.lt_trichotomy j lo with h | h | h
        · have := h3 j x h hj; omega
        · subst h; rw [hc] at hj; exact hcx (by simpa using hj)
        · have := hasc.get hc hj h
          have := h4 lo c (Nat.le_refl _) hc
          omega
    · repeat' first
        | refine k_then ?_ | refine c_seq ?_ | refine c_region ?_ | refine s_nil ?_ | refine s_move (by exact rfl) (by exact rfl) ?_ | refine s_assign (by exact rfl) (by exact rfl) ?_ | refine s_lss (by exact rfl) (by exact rfl) (by exact rfl) ?_ | refine s_pick_f (by exact rfl) (by exact rfl) (by exact rfl) ?_ | refine c_exit ?_ | refine c_ret ?_ | refine k_then_exit ?_ | refine k_blk_eq ?_ | (refine c_cond_p (by exact rfl) (fun h => ?_) (fun h => ?_) <;> try (exfalso; omega)) | (refine g_case (by exact rfl) (by exact rfl) (fun h => ?_) (fun h => ?_) <;> try (exfalso; omega)) | refine g_skip (by exact rfl) (by exact rfl) (by exact rfl) (by exact rfl) ?_ | fail
      refine ret2 [] rfl rfl rfl rfl ⟨?_, rfl⟩
      rw [hp, decide_eq_false (p := x ∈ l) fun hx => ?_]
      obtain ⟨j, hj⟩ := List.mem_iff_getElem?.1 hx
      have hjl := (List.getElem?_eq_some_iff.1 hj).1
      have := h3 j x (by omega) hj
      omega
end Go.Proofs.YtpajjnkmaebhcabGreat
end
section
set_option linter.unusedVariables false
namespace Fil
def encL (of : List Nat) (S : Nat → Bool) : Nat := match of with
  | [] => 0
  | a :: l => (if S a then 1 else 0) + 2 * encL l S
theorem encL_snoc (l : List Nat) (v : Nat) (S : Nat → Bool) : encL (l ++ [v]) S = encL l S + (if S v then 2 ^ l.length else 0) := by
  induction l with
  | nil => simp [encL]
  | cons a l ih => simp only [List.cons_append, encL, ih, List.length_cons, Nat.pow_succ]; split <;> split <;> omega
theorem encL_lt (l : List Nat) (S : Nat → Bool) : encL l S < 2 ^ l.length := by
  induction l with
  | nil => simp [encL]
  | cons a l ih => simp only [encL, List.length_cons, Nat.pow_succ]; split <;> omega
theorem encL_bit {l : List Nat} {S : Nat → Bool} : ∀ {k v : Nat}, l[k]? = some v → encL l S / 2 ^ k % 2 = if S v then 1 else 0 := by
  induction l with
  | nil => intro k v h; simp at h
  | cons a l ih =>
    intro k v h
    cases k with
    | zero =>
      obtain rfl : a = v := by simpa using h
      simp only [encL, Nat.pow_zero, Nat.div_one]
      split <;> omega
    | succ k =>
      have := ih (k := k) (v := v) (by simpa using h)
      rw [← this, encL, Nat.pow_succ, Nat.mul_comm (2 ^ k) 2, ← Nat.div_div_eq_div_mul]
      congr 2
      split <;> omega
theorem encL_congr {l : List Nat} {S S' : Nat → Bool} (h : ∀ u ∈ l, S u = S' u) : encL l S = encL l S' := by
  induction l with
  | nil => rfl
  | cons a l ih => simp only [encL, h a (by simp), ih (fun u hu => h u (by simp [hu]))]
theorem encL_append (l m : List Nat) (S : Nat → Bool) : encL (l ++ m) S = encL l S + 2 ^ l.length * encL m S := by
  induction l with
  | nil => simp [encL]
  | cons a l ih => simp only [List.cons_append, encL, ih, List.length_cons, Nat.pow_succ]; rw [Nat.mul_add, Nat.mul_comm (2 ^ l.length) 2, Nat.mul_assoc]; omega
/-- the choice that a number tells -/
def decL (of : List Nat) (c : Nat) (u : Nat) : Bool := decide (u ∈ of) && c.testBit (of.idxOf u)
theorem decL_enc {of : List Nat} {S : Nat → Bool} {u : Nat} (hu : u ∈ of) : decL of (encL of S) u = S u := by
  have h1 : of.idxOf u < of.length := List.idxOf_lt_length_of_mem hu
  have h2 : of[of.idxOf u]? = some u := by
    rw [List.getElem?_eq_getElem h1, List.getElem_idxOf]
  rw [decL, decide_eq_true hu, Bool.true_and, Nat.testBit_eq_decide_div_mod_eq, encL_bit h2]
  cases S u <;> simp
theorem encL_dec {of : List Nat} (hn : of.Nodup) {c : Nat} (hc : c < 2 ^ of.length) : encL of (decL of c) = c := by
  induction of generalizing c with
  | nil => simp at hc; simp [encL, hc]
  | cons a l ih =>
    obtain ⟨h1, h2⟩ := List.nodup_cons.1 hn
    rw [List.length_cons, Nat.pow_succ] at hc
    have ha : decL (a :: l) c a = decide (c % 2 = 1) := by
      rw [decL, decide_eq_true (by simp), Bool.true_and, List.idxOf_cons_self, Nat.testBit_zero]
    have hl : encL l (decL (a :: l) c) = encL l (decL l (c / 2)) := by
      refine encL_congr fun u hu => ?_
      have hne : a ≠ u := fun e => h1 (e ▸ hu)
      rw [decL, decL, decide_eq_true (by simp [hu]), decide_eq_true hu, Bool.true_and, Bool.true_and, show (a :: l).idxOf u = l.idxOf u + 1 by rw [List.idxOf_cons, show (a == u) = false from by simpa using hne]; rfl, Nat.testBit_succ]
    rw [encL, ha, hl, ih h2 (by omega)]
    by_cases h : c % 2 = 1
    · simp only [h, decide_true, if_true]; omega
    · simp only [h, decide_false]; simp; omega
/-- a table: over which vertices, and what it tells -/
abbrev Tab := List Nat × ((Nat → Bool) → Nat)
def TabOK (t : Tab) : Prop := ∀ S S' : Nat → Bool, (∀ u ∈ t.1, S u = S' u) → t.2 S = t.2 S'
def bestL (t : Tab) : List Nat := (List.range (2 ^ t.1.length)).map fun c => t.2 (decL t.1 c)
theorem bestL_length (t : Tab) : (bestL t).length = 2 ^ t.1.length := by simp [bestL]
theorem bestL_get {t : Tab} (h : TabOK t) (S : Nat → Bool) : (bestL t)[encL t.1 S]? = some (t.2 S) := by
  rw [bestL, List.getElem?_map, List.getElem?_range (encL_lt _ _), Option.map_some]
  exact congrArg some (h _ _ fun u hu => decL_enc hu)
def sumT (l : List Tab) (S : Nat → Bool) : Nat := (l.map fun t => t.2 S).sum
theorem sumT_snoc (l : List Tab) (t : Tab) (S : Nat → Bool) : sumT (l ++ [t]) S = sumT l S + t.2 S := by simp [sumT]
theorem sumT_take_le (l : List Tab) (S : Nat → Bool) (k : Nat) : sumT (l.take k) S ≤ sumT l S := by
  conv => rhs; rw [← List.take_append_drop k l]
  simp only [sumT, List.map_append, List.sum_append]
  omega
theorem posB_mem {l : List Nat} (h : Asc l) {x : Nat} (hx : x ∈ l) : l[posB l x]? = some x := by
  induction l with
  | nil => simp at hx
  | cons a l ih =>
    obtain ⟨h1, h2⟩ := List.pairwise_cons.1 h
    by_cases e : x = a
    · subst e; simp [posB]
    · have hx : x ∈ l := by simpa [e] using hx
      rw [posB, if_pos (h1 x hx), List.getElem?_cons_succ]
      exact ih h2 hx
end Fil
end
section
namespace Go.Proofs.YtpajjnkmaebhcabGreat
open Go.RowKit Go.Sl Fil
set_option maxRecDepth 100000
set_option maxHeartbeats 8000000
set_option linter.unusedVariables false
set_option linter.unusedSimpArgs false
attribute [local irreducible] Code.wp wpList bodyPost wpQuiet Exit.then Exit.inBlock Post wpAnyH wpOp
theorem bits_ok (vo vi : Value) (of inn : List Nat) (C : Nat → Bool) (w : World) (hs1 : Shp vo of.length) (hr1 : RO w No vo (nV of)) (hs2 : Shp vi inn.length) (hr2 : RO w No vi (nV inn)) (hasc : Asc of) (hsub : ∀ u ∈ inn, u ∈ of) (h40 : of.length ≤ 40) (hi40 : inn.length ≤ 40) :
    Calls Tryz.prog 154 #[.int .i64 (encL of C : Int), vo, vi] w (Post w No (Just (.int .i64 (encL inn C : Int)))) := by
  refine enter0 (vs := [_, _, _]) Tryz.func154 rfl Tryz.ntmps154 rfl ?_
  have hlt := encL_lt of C
  have h2 : 2 ^ of.length ≤ 2 ^ 40 := Nat.pow_le_pow_right (by decide) h40
  repeat' first
    | refine k_then ?_ | refine c_seq ?_ | refine c_region ?_ | refine s_nil ?_ | refine s_move (by exact rfl) (by exact rfl) ?_ | refine s_assign (by exact rfl) (by exact rfl) ?_ | refine s_len (by exact rfl) (by exact rfl) (by assumption) ?_ | refine c_block ?_
  refine c_loop (fun k : Nat => k ≤ inn.length) (fun k => [(0, .int .i64 (encL of C : Int)), (1, vo), (7, .int .i64 (encL (inn.take k) C : Int)), (12, vi), (13, .int .i64 (inn.length : Int)), (14, .int .i64 (k : Int))]) (fun _ => []) (fun k => inn.length - k) 0 [] (by omega) rfl ⟨rfl, rfl, rfl, rfl, rfl, rfl, trivial⟩ ?_
  intro k hk
  by_cases hkl : k < inn.length
  · obtain ⟨v, hv⟩ : ∃ v, inn[k]? = some v := ⟨_, List.getElem?_eq_getElem hkl⟩
    have hcv : (nV inn)[k * 1]? = some (.int .i64 (v : Int)) := by simp [nV, hv]
    have hpm := posB_mem hasc (hsub v (List.mem_of_getElem? hv))
    have hpl := (List.getElem?_eq_some_iff.1 hpm).1
    have hbit := encL_bit (S := C) hpm
    have htk : encL (inn.take (k + 1)) C = encL (inn.take k) C + (if C v then 2 ^ k else 0) := by
      rw [List.take_add_one, hv, Option.toList_some, encL_snoc, List.length_take, Nat.min_eq_left (by omega)]
    have hlt2 := encL_lt (inn.take k) C
    rw [List.length_take, Nat.min_eq_left (by omega)] at hlt2
    have h3 : 2 ^ k ≤ 2 ^ 39 := Nat.pow_le_pow_right (by decide) (by omega)
    repeat' first
      | refine k_then ?_ | refine c_seq ?_ | refine c_region ?_ | refine s_nil ?_ | refine s_move (by exact rfl) (by exact rfl) ?_ | refine s_assign (by exact rfl) (by exact rfl) ?_ | refine s_lss (by exact rfl) (by exact rfl) (by exact rfl) ?_ | refine s_idx (by exact rfl) (by exact rfl) (by exact rfl) (by assumption) (by first | assumption | omega) ?_ | refine s_ld_ro (by exact rfl) (by exact rfl) (by assumption) (by assumption) ?_ | refine c_block ?_ | refine c_skip ?_ | (refine c_cond_p (by exact rfl) (fun h => ?_) (fun h => ?_) <;> try (exfalso; omega))
    refine s_call (by exact rfl) (by exact rfl) (fun w h => BinarySearch_ok vo of v w hs1 (ro_old h hr1) hasc (by omega)) ?_
    generalize hp : posB of v = p at *
    repeat' first
      | refine k_then ?_ | refine c_seq ?_ | refine c_region ?_ | refine s_nil ?_ | refine s_move (by exact rfl) (by exact rfl) ?_ | refine s_assign (by exact rfl) (by exact rfl) ?_ | refine s_extract (by exact rfl) (by exact rfl) (by exact rfl) ?_ | refine s_conv (by exact rfl) (by exact rfl) (by refine ⟨?_, ?_⟩ <;> simp [IntKind.min, IntKind.max, IntKind.signed, IntKind.bits] <;> omega) ?_
    refine s_shr ((encL of C / 2 ^ p : Nat) : Int) rfl (by exact rfl) (by exact rfl) (by exact rfl) ⟨by omega, by omega⟩ (by rw [show (p : Int).toNat = p by omega]; norm_cast) ?_
    have hq : encL of C / 2 ^ p ≤ encL of C := Nat.div_le_self _ _
    generalize encL of C / 2 ^ p = q at *
    skip
    refine s_and ((q % 2 : Nat) : Int) (by exact rfl) (by exact rfl) (by exact rfl) ⟨by omega, by omega⟩ ⟨by omega, by omega⟩ (by rw [show (q : Int).toNat = q by omega, show (1 : Int).toNat = 1 from rfl, Nat.and_one_is_mod]) ?_
    rw [hbit]
    cases hC : C v
    · rw [hC] at htk
      rw [if_neg (by simp)] at htk ⊢
      repeat' first
        | refine k_then ?_ | refine c_region ?_ | refine s_nil ?_ | refine s_move (by exact rfl) (by exact rfl) ?_ | refine s_eql (by exact rfl) (by exact rfl) (by exact rfl) ?_ | refine s_add (by exact rfl) (by exact rfl) (by exact rfl) (by omega) ?_ | refine c_skip ?_ | refine k_blk ?_ | (refine c_cond_p (by exact rfl) (fun h => ?_) (fun h => ?_) <;> try (exfalso; omega))
      refine c_round (k + 1) [] (by exact rfl) (by rw [htk]; exact ⟨rfl, rfl, rfl, rfl, rfl, rfl, trivial⟩) (by omega) (by omega)
    · rw [hC] at htk
      rw [if_pos rfl] at htk ⊢
      repeat' first
        | refine k_then ?_ | refine c_region ?_ | refine s_nil ?_ | refine s_move (by exact rfl) (by exact rfl) ?_ | refine s_eql (by exact rfl) (by exact rfl) (by exact rfl) ?_ | (refine c_cond_p (by exact rfl) (fun h => ?_) (fun h => ?_) <;> try (exfalso; omega)) | refine s_conv (by exact rfl) (by exact rfl) (by refine ⟨?_, ?_⟩ <;> simp [IntKind.min, IntKind.max, IntKind.signed, IntKind.bits] <;> omega) ?_
      refine s_shl ((2 ^ k : Nat) : Int) (by exact rfl) (by exact rfl) (by exact rfl) ⟨by omega, by omega⟩ (by rw [show (k : Int).toNat = k by omega, Int.one_mul]; norm_cast) ⟨by omega, by omega⟩ ?_
      skip
      refine s_or ((encL (inn.take k) C + 2 ^ k : Nat) : Int) (by exact rfl) (by exact rfl) (by exact rfl) ⟨by omega, by omega⟩ ⟨by omega, by omega⟩ (by
        rw [show ((encL (inn.take k) C : Nat) : Int).toNat = encL (inn.take k) C by omega, show ((2 ^ k : Nat) : Int).toNat = 2 ^ k by omega]
        have := Nat.two_pow_add_eq_or_of_lt hlt2 1
        rw [Nat.mul_one] at this
        rw [Nat.or_comm, ← this, Nat.add_comm]) ?_
      repeat' first
        | refine k_then ?_ | refine c_region ?_ | refine s_nil ?_ | refine s_move (by exact rfl) (by exact rfl) ?_ | refine s_assign (by exact rfl) (by exact rfl) ?_ | refine s_add (by exact rfl) (by exact rfl) (by exact rfl) (by omega) ?_ | refine k_blk ?_
      refine c_round (k + 1) [] (by exact rfl) (by rw [htk]; exact ⟨rfl, rfl, rfl, rfl, rfl, rfl, trivial⟩) (by omega) (by omega)
  · rw [List.take_of_length_le (by omega)]
    repeat' first
      | refine k_then ?_ | refine c_seq ?_ | refine c_region ?_ | refine s_nil ?_ | refine s_move (by exact rfl) (by exact rfl) ?_ | refine s_assign (by exact rfl) (by exact rfl) ?_ | refine s_lss (by exact rfl) (by exact rfl) (by exact rfl) ?_ | refine c_exit ?_ | refine c_ret ?_ | refine k_then_exit ?_ | refine k_blk_eq ?_ | (refine c_cond_p (by exact rfl) (fun h => ?_) (fun h => ?_) <;> try (exfalso; omega))
    refine ret1 [] rfl rfl rfl ⟨rfl, rfl⟩
theorem allowed_ok (b : Nat) (vn vt vd vo : Value) (hn : List Value) (near : List (List Nat)) (of : List Nat) (C : Nat → Bool) (x : Nat) (w : World) (hb : RB w No b 137 [vn, vt, vd]) (hrn : ROs w No vn hn near) (hx : x < near.length) (hN : near.length ≤ 1048576) (hs : Shp vo of.length) (hr : RO w No vo (nV of)) (h40 : of.length ≤ 40) :
    Calls Tryz.prog 138 #[.pointer (some ⟨b, 0, none⟩), .int .i64 (x : Int), .int .i64 (encL of C : Int), vo] w (Post w No (Just (.bool (decide (∀ u ∈ of, C u = true → u ∉ near.getD x []))))) := by
  have hsn := hrn.shp
  have hnl := hrn.len
  have hro := hrn.ro
  obtain ⟨l, hl⟩ : ∃ l, near[x]? = some l := ⟨_, List.getElem?_eq_getElem hx⟩
  have hgl : near.getD x [] = l := by rw [List.getD_eq_getElem?_getD, hl]; rfl
  obtain ⟨hd, hhd⟩ : ∃ hd, hn[x]? = some hd := ⟨_, List.getElem?_eq_getElem (by omega)⟩
  have hhd1 : hn[x * 1]? = some hd := by simpa using hhd
  obtain ⟨hks, hkr⟩ := hrn.kid x hd l hhd hl
  rw [hgl]
  have hlt := encL_lt of C
  have h2 : 2 ^ of.length ≤ 2 ^ 40 := Nat.pow_le_pow_right (by decide) h40
  refine enter0 (vs := [_, _, _, _]) Tryz.func138 rfl Tryz.ntmps138 rfl ?_
  repeat' first
    | refine k_then ?_ | refine c_seq ?_ | refine c_region ?_ | refine s_nil ?_ | refine s_move (by exact rfl) (by exact rfl) ?_ | refine s_assign (by exact rfl) (by exact rfl) ?_ | refine s_len (by exact rfl) (by exact rfl) (by assumption) ?_ | refine c_block ?_
  refine c_loop (fun k : Nat => k ≤ of.length ∧ ∀ u ∈ of.take k, C u = true → u ∉ l) (fun k => [(0, .pointer (some ⟨b, 0, none⟩)), (1, .int .i64 (x : Int)), (2, .int .i64 (encL of C : Int)), (11, vo), (12, .int .i64 (of.length : Int)), (13, .int .i64 (k : Int))]) (fun _ => []) (fun k => of.length - k) 0 [] ⟨by omega, by simp⟩ rfl ⟨rfl, rfl, rfl, rfl, rfl, rfl, trivial⟩ ?_
  rintro k ⟨hk, hq⟩
  by_cases hkl : k < of.length
  · obtain ⟨v, hv⟩ : ∃ v, of[k]? = some v := ⟨_, List.getElem?_eq_getElem hkl⟩
    have hcv : (nV of)[k * 1]? = some (.int .i64 (v : Int)) := by simp [nV, hv]
    have hbit := encL_bit (S := C) hv
    have hnext : (C v = true → v ∉ l) → ∀ u ∈ of.take (k + 1), C u = true → u ∉ l := by
      intro h u hu
      rw [List.take_add_one, hv] at hu
      rcases List.mem_append.1 hu with hu | hu
      · exact hq u hu
      · obtain rfl : u = v := by simpa using hu
        exact h
    repeat' first
      | refine k_then ?_ | refine c_seq ?_ | refine c_region ?_ | refine s_nil ?_ | refine s_move (by exact rfl) (by exact rfl) ?_ | refine s_assign (by exact rfl) (by exact rfl) ?_ | refine s_lss (by exact rfl) (by exact rfl) (by exact rfl) ?_ | refine s_idx (by exact rfl) (by exact rfl) (by exact rfl) (by assumption) (by first | assumption | omega) ?_ | refine s_ld_ro (by exact rfl) (by exact rfl) (by assumption) (by assumption) ?_ | refine c_block ?_ | refine c_skip ?_ | (refine c_cond_p (by exact rfl) (fun h => ?_) (fun h => ?_) <;> try (exfalso; omega)) | refine s_conv (by exact rfl) (by exact rfl) (by refine ⟨?_, ?_⟩ <;> simp [IntKind.min, IntKind.max, IntKind.signed, IntKind.bits] <;> omega) ?_
    refine s_shr ((encL of C / 2 ^ k : Nat) : Int) rfl (by exact rfl) (by exact rfl) (by exact rfl) ⟨by omega, by omega⟩ (by rw [show (k : Int).toNat = k by omega]; norm_cast) ?_
    have hqq : encL of C / 2 ^ k ≤ encL of C := Nat.div_le_self _ _
    generalize encL of C / 2 ^ k = q at *
    skip
    refine s_and ((q % 2 : Nat) : Int) (by exact rfl) (by exact rfl) (by exact rfl) ⟨by omega, by omega⟩ ⟨by omega, by omega⟩ (by rw [show (q : Int).toNat = q by omega, show (1 : Int).toNat = 1 from rfl, Nat.and_one_is_mod]) ?_
    rw [hbit]
    cases hC : C v
    · rw [if_neg (by simp)]
      repeat' first
        | refine k_then ?_ | refine c_region ?_ | refine s_nil ?_ | refine s_move (by exact rfl) (by exact rfl) ?_ | refine s_eql (by exact rfl) (by exact rfl) (by exact rfl) ?_ | refine s_add (by exact rfl) (by exact rfl) (by exact rfl) (by omega) ?_ | refine s_pick_f (by exact rfl) (by exact rfl) (by exact rfl) ?_ | refine c_skip ?_ | refine k_blk ?_ | refine c_cond_f (by exact rfl) ?_ | (refine g_case (by exact rfl) (by exact rfl) (fun h => ?_) (fun h => ?_) <;> try (exfalso; omega)) | refine g_skip (by exact rfl) (by exact rfl) (by exact rfl) (by exact rfl) ?_
      refine c_round (k + 1) [] (by exact rfl) ⟨rfl, rfl, rfl, rfl, rfl, rfl, trivial⟩ ⟨by omega, hnext (by rw [hC]; simp)⟩ (by omega)
    · rw [if_pos rfl]
      repeat' first
        | refine s_move (by exact rfl) (by exact rfl) ?_ | refine s_eql (by exact rfl) (by exact rfl) (by exact rfl) ?_ | (refine g_case (by exact rfl) (by exact rfl) (fun h => ?_) (fun h => ?_) <;> try (exfalso; omega)) | refine w_move (by exact rfl) (by exact rfl) (by exact rfl) (by exact rfl) ?_ | refine w_fa (by exact rfl) (by exact rfl) (by exact rfl) (by exact rfl) ?_ | refine w_idx (by exact rfl) (by exact rfl) (by exact rfl) (by exact rfl) (by exact rfl) (by assumption) (by first | assumption | omega) ?_ | refine w_ld_ro (by exact rfl) (by exact rfl) (by exact rfl) (by exact rfl) (by assumption) (by assumption) ?_ | refine w_ld_rb (by exact rfl) (by exact rfl) (by exact rfl) (by exact rfl) (by assumption) (by exact rfl) ?_ | refine g_on (by exact rfl) (by exact rfl) ?_ | refine s_nilc (by exact rfl) (by exact rfl) ?_
      refine s_call (by exact rfl) (by exact rfl) (fun w h => Contains_ok hd l v w hks (ro_old h hkr)) ?_
      by_cases hvl : v ∈ l
      · rw [decide_eq_true hvl]
        repeat' first
          | refine k_then ?_ | refine c_seq ?_ | refine c_region ?_ | refine s_nil ?_ | refine s_assign (by exact rfl) (by exact rfl) ?_ | refine s_pick_t (by exact rfl) (by exact rfl) (by exact rfl) ?_ | refine c_ret ?_ | refine k_then_ret ?_ | refine k_blk_ret ?_ | refine c_cond_t (by exact rfl) ?_
        refine ret1 [] rfl rfl rfl ⟨?_, rfl⟩
        rw [decide_eq_false (fun h => h v (List.mem_of_getElem? hv) hC hvl)]
      · rw [decide_eq_false hvl]
        repeat' first
          | refine k_then ?_ | refine c_region ?_ | refine s_nil ?_ | refine s_move (by exact rfl) (by exact rfl) ?_ | refine s_add (by exact rfl) (by exact rfl) (by exact rfl) (by omega) ?_ | refine s_pick_t (by exact rfl) (by exact rfl) (by exact rfl) ?_ | refine c_skip ?_ | refine k_blk ?_ | refine c_cond_f (by exact rfl) ?_
        refine c_round (k + 1) [] (by exact rfl) ⟨rfl, rfl, rfl, rfl, rfl, rfl, trivial⟩ ⟨by omega, hnext (fun _ => hvl)⟩ (by omega)
  · rw [List.take_of_length_le (by omega)] at hq
    repeat' first
      | refine k_then ?_ | refine c_seq ?_ | refine c_region ?_ | refine s_nil ?_ | refine s_assign (by exact rfl) (by exact rfl) ?_ | refine s_lss (by exact rfl) (by exact rfl) (by exact rfl) ?_ | refine c_exit ?_ | refine c_ret ?_ | refine k_then_exit ?_ | refine k_blk_eq ?_ | (refine c_cond_p (by exact rfl) (fun h => ?_) (fun h => ?_) <;> try (exfalso; omega))
    refine ret1 [] rfl rfl rfl ⟨?_, rfl⟩
    rw [decide_eq_true hq]
theorem decided_ok (b : Nat) (vi : Value) (l : List Bool) (c : Nat) (w : World) (hb : RB w No b 57 [vi]) (hs : Shp vi l.length) (hr : RO w No vi (bV l)) (hc : c < l.length) :
    Calls Tryz.prog 139 #[.int .i64 (c : Int), .pointer (some ⟨b, 0, none⟩)] w (Post w No (Just (.bool (l.getD c false)))) := by
  refine enter0 (vs := [_, _]) Tryz.func139 rfl Tryz.ntmps139 rfl ?_
  have hg := bV_get hc
  repeat' first
    | refine k_then ?_ | refine c_seq ?_ | refine c_region ?_ | refine s_nil ?_ | refine s_move (by exact rfl) (by exact rfl) ?_ | refine s_assign (by exact rfl) (by exact rfl) ?_ | refine s_idx (by exact rfl) (by exact rfl) (by exact rfl) (by assumption) (by first | assumption | omega) ?_ | refine s_ld_ro (by exact rfl) (by exact rfl) (by assumption) (by assumption) ?_ | refine s_ld_rb (by exact rfl) (by exact rfl) (by assumption) (by exact rfl) ?_ | refine c_ret ?_
  refine ret1 [] rfl rfl rfl ⟨rfl, rfl⟩
end Go.Proofs.YtpajjnkmaebhcabGreat
end
section
namespace Go.Sl
open Go Go.RowKit Fil
/-- pairs of slices, cell by cell -/
def tabV (tv : List (Value × Value)) : List Value := tv.flatMap fun h => [h.1, h.2]
theorem tabV_snoc (tv : List (Value × Value)) (h : Value × Value) : tabV (tv ++ [h]) = tabV tv ++ [h.1, h.2] := by simp [tabV]
theorem tabV_get {tv : List (Value × Value)} {k : Nat} {h : Value × Value} (hk : tv[k]? = some h) : ((tabV tv).drop (k * 2)).take 2 = [h.1, h.2] := by
  induction tv generalizing k with
  | nil => simp at hk
  | cons a l ih =>
    cases k with
    | zero =>
      obtain rfl : a = h := by simpa using hk
      rfl
    | succ k =>
      have := ih (k := k) (by simpa using hk)
      rw [show (k + 1) * 2 = k * 2 + 2 by omega]
      simpa [tabV] using this
/-- tables that are read -/
structure TabRO (w : World) (S : FS) (tv : List (Value × Value)) (tabs : List Tab) : Prop where
  len : tv.length = tabs.length
  tab : ∀ (i : Nat) h t, tv[i]? = some h → tabs[i]? = some t → Shp h.1 t.1.length ∧ RO w S h.1 (nV t.1) ∧ Shp h.2 (2 ^ t.1.length) ∧ RO w S h.2 (nV (bestL t))
theorem tabRO_old {w0 w : World} {S0 : FS} {L : List HP} {tv : List (Value × Value)} {tabs : List Tab} (h : St w0 S0 L w) (hr : TabRO w0 S0 tv tabs) : TabRO w No tv tabs :=
  ⟨hr.len, fun i a t h1 h2 => ⟨(hr.tab i a t h1 h2).1, ro_old h (hr.tab i a t h1 h2).2.1, (hr.tab i a t h1 h2).2.2.1, ro_old h (hr.tab i a t h1 h2).2.2.2⟩⟩
end Go.Sl
namespace Go.Proofs.YtpajjnkmaebhcabGreat
open Go.RowKit Go.Sl Fil
set_option maxRecDepth 100000
set_option maxHeartbeats 8000000
set_option linter.unusedVariables false
set_option linter.unusedSimpArgs false
attribute [local irreducible] Code.wp wpList bodyPost wpQuiet Exit.then Exit.inBlock Post wpAnyH wpOp
theorem count_ok (vo vt : Value) (of : List Nat) (tv : List (Value × Value)) (tabs : List Tab) (C : Nat → Bool) (w : World) (hs1 : Shp vo of.length) (hr1 : RO w No vo (nV of)) (hasc : Asc of) (h40 : of.length ≤ 40)
    (hs2 : Shp vt tv.length) (hr2 : RO w No vt (tabV tv)) (ht : TabRO w No tv tabs) (hok : ∀ t ∈ tabs, TabOK t ∧ (∀ u ∈ t.1, u ∈ of) ∧ t.1.length ≤ 40) (hsum : sumT tabs C ≤ 1048576) :
    Calls Tryz.prog 137 #[.int .i64 (encL of C : Int), vo, vt] w (Post w No (Just (.int .i64 (sumT tabs C : Int)))) := by
  have hm := hs2.1
  simp only [maxLen] at hm
  have hlen := ht.len
  refine enter0 (vs := [_, _, _]) Tryz.func137 rfl Tryz.ntmps137 rfl ?_
  repeat' first
    | refine k_then ?_ | refine c_seq ?_ | refine c_region ?_ | refine s_nil ?_ | refine s_move (by exact rfl) (by exact rfl) ?_ | refine s_assign (by exact rfl) (by exact rfl) ?_ | refine s_len (by exact rfl) (by exact rfl) (by assumption) ?_ | refine c_block ?_
  refine c_loop (fun k : Nat => k ≤ tabs.length) (fun k => [(0, .int .i64 (encL of C : Int)), (1, vo), (7, .int .i64 (sumT (tabs.take k) C : Int)), (11, vt), (12, .int .i64 (tv.length : Int)), (13, .int .i64 (k : Int))]) (fun _ => []) (fun k => tabs.length - k) 0 [] (by omega) rfl ⟨rfl, rfl, rfl, rfl, rfl, rfl, trivial⟩ ?_
  intro k hk
  have hp1 := sumT_take_le tabs C k
  have hp2 := sumT_take_le tabs C (k + 1)
  by_cases hkl : k < tabs.length
  · obtain ⟨t, htk⟩ : ∃ t, tabs[k]? = some t := ⟨_, List.getElem?_eq_getElem hkl⟩
    obtain ⟨hd, hhk⟩ : ∃ hd, tv[k]? = some hd := ⟨_, List.getElem?_eq_getElem (by omega)⟩
    obtain ⟨q1, q2, q3, q4⟩ := ht.tab k hd t hhk htk
    obtain ⟨o1, o2, o3⟩ := hok t (List.mem_of_getElem? htk)
    have hE := tabV_get hhk
    have hbg := bestL_get o1 C
    have hcb : (nV (bestL t))[encL t.1 C * 1]? = some (.int .i64 (t.2 C : Int)) := by simp [nV, hbg]
    have hel := encL_lt t.1 C
    have hsn : sumT (tabs.take (k + 1)) C = sumT (tabs.take k) C + t.2 C := by rw [List.take_add_one, htk, Option.toList_some, sumT_snoc]
    repeat' first
      | refine k_then ?_ | refine c_seq ?_ | refine c_region ?_ | refine s_nil ?_ | refine s_lss (by exact rfl) (by exact rfl) (by exact rfl) ?_ | refine s_idx (by exact rfl) (by exact rfl) (by exact rfl) (by assumption) (by first | assumption | omega) ?_ | refine s_ldk_ro (by exact rfl) (by exact rfl) (by assumption) (by decide) (by assumption) (by exact rfl) ?_ | refine o_alloc (by exact rfl) (fun b => ?_) | refine c_block ?_ | refine c_skip ?_ | (refine c_cond_p (by exact rfl) (fun h => ?_) (fun h => ?_) <;> try (exfalso; omega))
    refine o_stk_box (i := 0) (us := [hd.1, hd.2]) (by exact rfl) (by exact rfl) (by exact rfl) (by exact rfl) (by exact rfl) (by
      intro u hu
      simp only [List.mem_cons, List.not_mem_nil, or_false] at hu
      rcases hu with rfl | rfl
      · exact q1.one
      · exact q3.one) (by simp [Value.cells]) ?_
    repeat' first
      | refine k_then ?_ | refine c_seq ?_ | refine s_nil ?_
    refine p_begin0 [(0, true), (1, true), (2, true), (3, true), (4, true), (5, true), (6, false), (7, true), (8, true), (9, true)] (by kernel_rfl) ?_
    repeat' first
      | (refine p_at (by exact rfl) ?_
         first
          | refine t_move (by exact rfl) (by exact rfl) (by exact fun _ h => h) ?_ | refine t_fa (by exact rfl) (by exact rfl) (by exact fun _ h => h) ?_ | refine t_ld_box (by exact rfl) (by exact rfl) (by exact .head _) (by exact rfl) (by exact fun _ h => h) ?_)
    refine p_call (gd := none) (by exact rfl) (by exact rfl) (by exact rfl) (fun w h => bits_ok vo hd.1 of t.1 C w hs1 (ro_old h hr1) q1 (ro_old h q2) hasc o2 h40 o3) (by exact fun _ h => h) ?_
    repeat' first
      | refine p_nil ?_
      | (refine p_at (by exact rfl) ?_
         first
          | refine t_assign (by exact rfl) (by exact rfl) (by exact fun _ h => h) ?_ | refine t_idx (by exact rfl) (by exact rfl) (by exact rfl) (by assumption) (by first | assumption | omega) (by exact fun _ h => h) ?_ | refine t_ld_ro (by exact rfl) (by exact rfl) (by assumption) (by assumption) (by exact fun _ h => h) ?_)
    repeat' first
      | refine k_then ?_ | refine c_seq ?_ | refine c_region ?_ | refine s_nil ?_ | refine s_move (by exact rfl) (by exact rfl) ?_ | refine s_assign (by exact rfl) (by exact rfl) ?_ | refine s_lss (by exact rfl) (by exact rfl) (by exact rfl) ?_ | refine s_add (by exact rfl) (by exact rfl) (by exact rfl) (by omega) ?_ | refine c_skip ?_ | refine k_blk ?_ | (refine c_cond_p (by exact rfl) (fun h => ?_) (fun h => ?_) <;> try (exfalso; omega))
    refine c_round (k + 1) [] (by exact rfl) (by rw [hsn]; exact ⟨rfl, rfl, rfl, rfl, rfl, rfl, trivial⟩) (by omega) (by omega)
  · rw [List.take_of_length_le (by omega)]
    repeat' first
      | refine k_then ?_ | refine c_seq ?_ | refine c_region ?_ | refine s_nil ?_ | refine s_move (by exact rfl) (by exact rfl) ?_ | refine s_assign (by exact rfl) (by exact rfl) ?_ | refine s_lss (by exact rfl) (by exact rfl) (by exact rfl) ?_ | refine c_exit ?_ | refine c_ret ?_ | refine k_then_exit ?_ | refine k_blk_eq ?_ | (refine c_cond_p (by exact rfl) (fun h => ?_) (fun h => ?_) <;> try (exfalso; omega))
    refine ret1 [] rfl rfl rfl ⟨rfl, rfl⟩
end Go.Proofs.YtpajjnkmaebhcabGreat
end
section
namespace Go.Proofs.YtpajjnkmaebhcabGreat
open Go.RowKit Go.Sl Fil
set_option maxRecDepth 100000
set_option maxHeartbeats 8000000
set_option linter.unusedVariables false
set_option linter.unusedSimpArgs false
attribute [local irreducible] Code.wp wpList bodyPost wpQuiet Exit.then Exit.inBlock Post wpAnyH wpOp
theorem values1_ok (b : Nat) (v : Value) (xs : List Nat) (w : World) (S : FS) (hb : RB w S b 28 [v]) (hs : Shp v xs.length) (hr : RO w S v (nV xs)) :
    IterOK Tryz.prog 152 [.pointer (some ⟨b, 0, none⟩)] xs.length (fun i => [.int .i64 ((xs.getD i 0 : Nat) : Int)]) w S := by
  intro l LL hy M hM hsat
  have hm := hs.1
  simp only [maxLen] at hm
  refine enter (vs := [_, _]) Tryz.func152 rfl Tryz.ntmps152 rfl hsat ?_
  repeat' first
    | refine k_then ?_ | refine c_seq ?_ | refine c_region ?_ | refine s_nil ?_ | refine s_move (by exact rfl) (by exact rfl) ?_ | refine s_len (by exact rfl) (by exact rfl) (by assumption) ?_ | refine s_ld_rb (by exact rfl) (by exact rfl) (by assumption) (by exact rfl) ?_ | refine c_block ?_ | fail
  refine c_loop (fun x : Nat × List HP => x.1 ≤ xs.length ∧ LL x.1 x.2) (fun x => [(0, .func (.yield l) #[] #[]), (5, v), (6, .int .i64 (xs.length : Int)), (7, .int .i64 (x.1 : Int))]) (fun x => x.2) (fun x => xs.length - x.1) (0, M) (List.replicate M.length 0) ⟨by simp, hM⟩ (pick_id M) ⟨rfl, rfl, rfl, rfl, trivial⟩ ?_
  clear hM hsat
  rintro ⟨i, M⟩ ⟨hi, hM⟩
  dsimp only at hi hM ⊢
  by_cases hil : i < xs.length
  · have hci := nV_get hil
    generalize hreg : Code.region 3 _ _ = creg
    repeat' first
      | refine k_then ?_ | refine c_seq ?_ | refine c_region ?_ | refine s_nil ?_ | refine s_assign (by exact rfl) (by exact rfl) ?_ | refine s_lss (by exact rfl) (by exact rfl) (by exact rfl) ?_ | refine s_idx (by exact rfl) (by exact rfl) (by exact rfl) (by assumption) (by first | assumption | omega) ?_ | refine s_ld_ro (by exact rfl) (by exact rfl) (by assumption) (by assumption) ?_ | refine c_block ?_ | refine c_skip ?_ | (refine c_cond_p (by exact rfl) (fun h => ?_) (fun h => ?_) <;> try (exfalso; omega)) | fail
    subst hreg
    refine c_region_k 2 (by exact rfl) ?_
    simp only [List.take_succ_cons, List.take_zero, List.drop_succ_cons, List.drop_zero]
    repeat' first
      | refine k_then ?_ | refine s_nil ?_ | refine s_move (by exact rfl) (by exact rfl) ?_ | fail
    refine y_yield (K := LL (i + 1)) (by exact rfl) rfl (vs := [.int .i64 ((xs.getD i 0 : Nat) : Int)]) (by exact rfl) (fun W S' hm hs => hy i M W S' hil hM hm hs) fun M' hM' => ?_
    refine y_rest (by exact rfl) ?_
    repeat' first
      | refine k_then ?_ | refine c_region ?_ | refine s_nil ?_ | refine s_move (by exact rfl) (by exact rfl) ?_ | refine s_add (by exact rfl) (by exact rfl) (by exact rfl) (by omega) ?_ | refine s_not (by exact rfl) (by exact rfl) ?_ | refine c_skip ?_ | refine k_blk ?_ | refine c_cond_f (by exact rfl) ?_ | fail
    refine c_round (i + 1, M') (List.replicate M'.length 0) (pick_id M') ⟨rfl, rfl, rfl, rfl, trivial⟩ ⟨by dsimp only; omega, hM'⟩ (by dsimp only; omega)
  · repeat' first
      | refine k_then ?_ | refine c_seq ?_ | refine c_region ?_ | refine s_nil ?_ | refine s_lss (by exact rfl) (by exact rfl) (by exact rfl) ?_ | refine c_exit ?_ | refine k_then_exit ?_ | refine k_blk_eq ?_ | (refine c_cond_p (by exact rfl) (fun h => ?_) (fun h => ?_) <;> try (exfalso; omega)) | fail
    obtain rfl : i = xs.length := by omega
    refine ret0 (List.replicate M.length 0) rfl (pick_id M) hM
theorem appendSeq_ok (it : FuncId) (caps : List Value) (xs : List Nat) (w : World) [FnTy Tryz.prog it] (hN : xs.length ≤ 1048576)
    (hit : ∀ w' S' Sf, Mod w No w' Sf → (∀ k, S' k → Sf k) → IterOK Tryz.prog it caps xs.length (fun i => [.int .i64 ((xs.getD i 0 : Nat) : Int)]) w' S') :
    Calls Tryz.prog 165 #[.slice none 0 0, .func (.func it) #[] caps.toArray] w (Post w No fun r L' => L' = [rowHP r 3 1 xs.length (nV xs)]) := by
  refine enterM0 (vs := [_, _]) Tryz.func165 rfl Tryz.ntmps165 rfl ?_
  generalize hrest : Code.rangeFunc _ _ _ _ = crange
  repeat' first
    | refine k_then ?_ | refine c_seq ?_ | refine c_region ?_ | refine s_nil ?_ | refine s_move (by exact rfl) (by exact rfl) ?_ | refine s_assign (by exact rfl) (by exact rfl) ?_ | refine o_box (by exact rfl) (by exact rfl) (fun b => ?_) | refine c_block ?_ | fail
  subst hrest
  refine c_nil 3 1 ?_
  refine c_range (ps := [7]) it caps _ [] xs.length (fun i => [.int .i64 ((xs.getD i 0 : Nat) : Int)]) (fun i M => i ≤ xs.length ∧ ∃ vi, M = [rowHP vi 3 1 i (nV (xs.take i)), boxHP b 28 [vi]]) (List.append_nil _).symm (by exact rfl) (by exact rfl) (fun _ => rfl) (fun w' S' M h => by
    obtain ⟨Sf, hm, hS⟩ := h.old
    exact hit w' S' Sf hm hS) ⟨Nat.zero_le _, .slice none 0 0, rfl⟩ ?_ ?_
  · rintro i _ _ W S' l D r m hi ⟨_, vi, rfl⟩ rfl hlent hst
    obtain ⟨x, hx⟩ : ∃ x, xs[i]? = some x := ⟨_, List.getElem?_eq_getElem hi⟩
    have hg : xs.getD i 0 = x := by rw [List.getD_eq_getElem?_getD, hx]; rfl
    have htk : xs.take (i + 1) = xs.take i ++ [x] := by rw [List.take_add_one, hx]; rfl
    rw [hg]
    simp only [List.zip_cons_cons, List.zip_nil_left, List.reverse_cons, List.reverse_nil, List.nil_append, List.cons_append]
    refine x_region (by exact rfl) ?_
    repeat' first
      | refine k_then ?_ | refine s_nil ?_ | refine s_assign (by exact rfl) (by exact rfl) ?_ | fail
    refine r_begin (j := 0) rfl hst ?_
    refine x_block ?_
    refine x_region (by exact rfl) ?_
    repeat' first
      | refine s_move (by exact rfl) (by exact rfl) ?_ | refine s_ld_box (by exact rfl) (by exact rfl) (by exact .tail _ (.tail _ (.tail _ (.head _)))) (by exact rfl) ?_ | fail
    refine o_mk [.int .i64 (x : Int)] (by exact rfl) (by exact rfl) rfl (by simp [Value.cells]) (by simp) (by simp) fun vt hvt => ?_
    skip
    refine o_append_row (bytes := 8) (i := 3) (by exact rfl) (by exact rfl) (by exact rfl) (by exact rfl) (by exact .head _) (by exact rfl) (by simp [Value.cells, Value.oneCell']) (by omega) fun v3 hv3 => ?_
    skip
    refine o_st_box (i := 4) (by exact rfl) (by exact rfl) (by exact rfl) hv3.one (by simp) ?_
    repeat' first
      | refine s_nil ?_ | refine k_blk ?_ | fail
    refine r_end (j := 1) [1, 1, 1, 1] rfl rfl fun W2 h2 => ⟨rfl, ?_⟩
    obtain ⟨S2, hm2, hl2⟩ := h2
    refine ⟨_, S2, ⟨_, ⟨by omega, v3, rfl⟩, rfl⟩, hm2, ?_⟩
    rw [htk, show nV (xs.take i ++ [x]) = nV (xs.take i) ++ [.int .i64 (x : Int)] by simp [nV]]
    exact hl2
  · rintro _ l D r ⟨_, vi, rfl⟩
    refine know_row (v := vi) (.tail _ (.tail _ (.head _))) fun hvi _ => ?_
    refine m_blk ?_
    refine m_then ?_
    refine m_seq ?_
    refine m_region (by exact rfl) ?_
    repeat' first
      | refine s_nil ?_ | refine s_assign (by exact rfl) (by exact rfl) ?_ | refine s_ld_box (by exact rfl) (by exact rfl) (by exact .tail _ (.tail _ (.tail _ (.head _)))) (by exact rfl) ?_ | fail
    refine m_then ?_
    refine m_ret ?_
    refine m_end (j := 1) rfl ?_
    refine ret1 [2] rfl rfl rfl ?_
    rw [List.take_length]
theorem Collect_ok (it : FuncId) (caps : List Value) (xs : List Nat) (w : World) [FnTy Tryz.prog it] (hN : xs.length ≤ 1048576)
    (hit : ∀ w' S' Sf, Mod w No w' Sf → (∀ k, S' k → Sf k) → IterOK Tryz.prog it caps xs.length (fun i => [.int .i64 ((xs.getD i 0 : Nat) : Int)]) w' S') :
    Calls Tryz.prog 151 #[.func (.func it) #[] caps.toArray] w (Post w No fun r L' => L' = [rowHP r 3 1 xs.length (nV xs)]) := by
  refine enter0 (vs := [_]) Tryz.func151 rfl Tryz.ntmps151 rfl ?_
  repeat' first
    | refine k_then ?_ | refine c_seq ?_ | refine c_region ?_ | refine s_nil ?_ | refine s_move (by exact rfl) (by exact rfl) ?_ | refine s_assign (by exact rfl) (by exact rfl) ?_ | fail
  refine o_call (by exact rfl) (by exact rfl) (fun w1 h => appendSeq_ok it caps xs w1 hN fun w' S' Sf hm hS => h.mod0.elim fun S1 hm1 => hit w' S' _ (mod_trans0 hm1 hm) fun k hk => .inr (hS k hk)) ?_
  rintro vo _ rfl
  repeat' first
    | refine k_then ?_ | refine s_nil ?_ | refine s_assign (by exact rfl) (by exact rfl) ?_ | refine c_ret ?_ | fail
  refine ret1 [0] rfl rfl rfl rfl
theorem Sorted_ok (it : FuncId) (caps : List Value) (xs : List Nat) (w : World) [FnTy Tryz.prog it] (hN : xs.length ≤ 1048576)
    (hit : ∀ w' S' Sf, Mod w No w' Sf → (∀ k, S' k → Sf k) → IterOK Tryz.prog it caps xs.length (fun i => [.int .i64 ((xs.getD i 0 : Nat) : Int)]) w' S') :
    Calls Tryz.prog 133 #[.func (.func it) #[] caps.toArray] w (Post w No fun r L' => L' = [rowHP r 3 1 xs.length (nV (sortN xs))]) := by
  refine enter0 (vs := [_]) Tryz.func133 rfl Tryz.ntmps133 rfl ?_
  repeat' first
    | refine k_then ?_ | refine c_seq ?_ | refine c_region ?_ | refine s_nil ?_ | refine s_move (by exact rfl) (by exact rfl) ?_ | refine s_assign (by exact rfl) (by exact rfl) ?_ | fail
  refine o_call (by exact rfl) (by exact rfl) (fun w1 h => Collect_ok it caps xs w1 hN fun w' S' Sf hm hS => h.mod0.elim fun S1 hm1 => hit w' S' _ (mod_trans0 hm1 hm) fun k hk => .inr (hS k hk)) ?_
  rintro vo _ rfl
  repeat' first
    | refine k_then ?_ | refine c_seq ?_ | refine c_region ?_ | refine s_nil ?_ | refine s_move (by exact rfl) (by exact rfl) ?_ | refine s_assign (by exact rfl) (by exact rfl) ?_ | fail
  refine s_lend [rowHP vo 3 1 xs.length (nV xs)] _ (by exact rfl) (by exact rfl) (by exact rfl) (fun w S h => nsort_row (sats_mem h.own (.head _)) (by omega)) ?_
  rintro _ _ ⟨rfl, rfl⟩
  repeat' first
    | refine k_then ?_ | refine c_seq ?_ | refine c_region ?_ | refine s_nil ?_ | refine s_move (by exact rfl) (by exact rfl) ?_ | refine s_assign (by exact rfl) (by exact rfl) ?_ | refine c_ret ?_ | fail
  refine ret1 [0] rfl rfl rfl rfl
end Go.Proofs.YtpajjnkmaebhcabGreat
end
section
set_option linter.unusedVariables false
namespace Fil
theorem sortN_asc {l : List Nat} (h : l.Nodup) : Asc (sortN l) := by
  have h1 := sortN_sorted l
  have h2 : (sortN l).Pairwise fun a b => a ≠ b := (sortN_perm l).nodup_iff.2 h
  exact (h1.and h2).imp fun h => by omega
theorem Asc.nodup {l : List Nat} (h : Asc l) : l.Nodup := h.imp fun h => by omega
/-- a vertex among its neighbours -/
def allV (nr : List Nat) (v : Nat) : List Nat := nr.take (posL nr v) ++ [v] ++ nr.drop (posL nr v)
theorem allV_sort {nr : List Nat} {v : Nat} (h : Asc nr) : sortN (nr ++ [v]) = allV nr v := (putL_eq (h.imp fun h => by omega)).symm
theorem allV_asc {nr : List Nat} {v : Nat} (h : Asc nr) (hv : v ∉ nr) : Asc (allV nr v) := by
  rw [← allV_sort h]
  exact sortN_asc (List.nodup_append.2 ⟨h.nodup, by simp, fun a ha b hb e => by
    obtain rfl : b = v := by simpa using hb
    exact hv (e ▸ ha)⟩)
theorem allV_length (nr : List Nat) (v : Nat) : (allV nr v).length = nr.length + 1 := putL_length nr v
theorem mem_allV {nr : List Nat} {v u : Nat} : u ∈ allV nr v ↔ u ∈ nr ∨ u = v := mem_putL
theorem posB_all {nr : List Nat} {v : Nat} (h : Asc nr) (hv : v ∉ nr) : posB (allV nr v) v = posL nr v := by
  have ha := allV_asc h hv
  have hple := posL_le nr v
  have hat : (allV nr v)[posL nr v]? = some v := by
    rw [allV, List.append_assoc, List.getElem?_append_right (by rw [List.length_take]; omega), List.length_take, Nat.min_eq_left hple, Nat.sub_self]
    rfl
  refine posB_eq (by rw [allV_length]; omega) (fun j y hj hy => ha.get hy hat hj) fun y hy => ?_
  rw [hat] at hy
  obtain rfl : v = y := by simpa using hy
  exact Nat.le_refl _
/-- a choice, and v too -/
def S1 (v : Nat) (C : Nat → Bool) (u : Nat) : Bool := C u || decide (u = v)
theorem encL_all0 {nr : List Nat} {v : Nat} {C : Nat → Bool} (hC : C v = false) : encL (allV nr v) C = encL (nr.take (posL nr v)) C + 2 ^ posL nr v * (2 * encL (nr.drop (posL nr v)) C) := by
  have hple := posL_le nr v
  rw [allV, List.append_assoc, encL_append, List.length_take, Nat.min_eq_left hple]
  simp [encL, hC]
theorem encL_all1 {nr : List Nat} {v : Nat} {C : Nat → Bool} (hv : v ∉ nr) : encL (allV nr v) (S1 v C) = encL (nr.take (posL nr v)) C + 2 ^ posL nr v * (1 + 2 * encL (nr.drop (posL nr v)) C) := by
  have hple := posL_le nr v
  rw [allV, List.append_assoc, encL_append, List.length_take, Nat.min_eq_left hple]
  have h1 : encL (nr.take (posL nr v)) (S1 v C) = encL (nr.take (posL nr v)) C := encL_congr fun u hu => by
    have : u ≠ v := fun e => hv (e ▸ List.mem_of_mem_take hu)
    simp [S1, this]
  have h2 : encL (nr.drop (posL nr v)) (S1 v C) = encL (nr.drop (posL nr v)) C := encL_congr fun u hu => by
    have : u ≠ v := fun e => hv (e ▸ List.mem_of_mem_drop hu)
    simp [S1, this]
  rw [h1]
  simp only [List.singleton_append, encL, h2]
  simp [S1]
theorem encL_split (nr : List Nat) (p : Nat) (C : Nat → Bool) (hp : p ≤ nr.length) : encL nr C = encL (nr.take p) C + 2 ^ p * encL (nr.drop p) C := by
  have h := encL_append (nr.take p) (nr.drop p) C
  rw [List.take_append_drop, List.length_take, Nat.min_eq_left hp] at h
  exact h
theorem or_low {lo p e : Nat} (h : lo < 2 ^ p) : lo ||| 2 ^ p * (2 * e) = lo + 2 ^ p * (2 * e) := by
  rw [Nat.or_comm, ← Nat.two_pow_add_eq_or_of_lt h, Nat.add_comm]
theorem or_bit {lo p e : Nat} (h : lo < 2 ^ p) : (lo + 2 ^ p * (2 * e)) ||| 2 ^ p = lo + 2 ^ p * (1 + 2 * e) := by
  have h1 : 2 * e ||| 1 = 2 * e + 1 := by
    have := Nat.two_pow_add_eq_or_of_lt (i := 1) (b := 1) (by decide) e
    simpa using this.symm
  have h2 : 2 ^ p * (2 * e) ||| 2 ^ p = 2 ^ p * (2 * e + 1) := by
    have h3 := Nat.shiftLeft_or_distrib (i := p) (a := 2 * e) (b := 1)
    simp only [Nat.shiftLeft_eq] at h3
    rw [h1] at h3
    rw [Nat.mul_comm (2 ^ p) (2 * e), Nat.mul_comm (2 ^ p) (2 * e + 1), h3, Nat.one_mul]
  have h4 := Nat.two_pow_add_eq_or_of_lt h (2 * e)
  have h5 := Nat.two_pow_add_eq_or_of_lt h (2 * e + 1)
  rw [Nat.add_comm, h4, Nat.or_assoc, Nat.or_comm lo, ← Nat.or_assoc, h2, ← h5, Nat.add_comm, Nat.add_comm (2 * e)]
def mineT (v : Nat) (tabs : List Tab) : List Tab := tabs.filter fun t => decide (v ∈ t.1)
def restT (v : Nat) (tabs : List Tab) : List Tab := tabs.filter fun t => !decide (v ∈ t.1)
def okV (G : List (List Nat)) (v : Nat) (nr : List Nat) (C : Nat → Bool) : Bool := decide (∀ u ∈ nr, C u = true → u ∉ G.getD v [])
def inV (G : List (List Nat)) (v : Nat) (nr : List Nat) (tabs : List Tab) (C : Nat → Bool) : Bool := okV G v nr C && decide (sumT (mineT v tabs) C < sumT (mineT v tabs) (S1 v C) + 1)
def newV (G : List (List Nat)) (v : Nat) (nr : List Nat) (tabs : List Tab) (C : Nat → Bool) : Nat := if inV G v nr tabs C then sumT (mineT v tabs) (S1 v C) + 1 else sumT (mineT v tabs) C
def resC (nr : List Nat) (C : Nat → Bool) (u : Nat) : Bool := decide (u ∈ nr) && C u
theorem resC_dec (nr : List Nat) (c : Nat) : resC nr (decL nr c) = decL nr c := by
  funext u
  simp only [resC, decL]
  cases decide (u ∈ nr) <;> simp
def newT (G : List (List Nat)) (v : Nat) (nr : List Nat) (tabs : List Tab) : Tab := (nr, fun C => newV G v nr tabs (resC nr C))
theorem newT_ok (G : List (List Nat)) (v : Nat) (nr : List Nat) (tabs : List Tab) : TabOK (newT G v nr tabs) := fun C C' h => by
  show newV G v nr tabs (resC nr C) = newV G v nr tabs (resC nr C')
  have : resC nr C = resC nr C' := by
    funext u
    by_cases hu : u ∈ nr
    · simp [resC, h u hu]
    · simp [resC, hu]
  rw [this]
theorem bestL_new (G : List (List Nat)) (v : Nat) (nr : List Nat) (tabs : List Tab) : bestL (newT G v nr tabs) = (List.range (2 ^ nr.length)).map fun c => newV G v nr tabs (decL nr c) := by
  simp only [bestL, newT, resC_dec]
def inL (G : List (List Nat)) (v : Nat) (nr : List Nat) (tabs : List Tab) : List Bool := (List.range (2 ^ nr.length)).map fun c => inV G v nr tabs (decL nr c)
theorem sumT_filter (p : Tab → Bool) (l : List Tab) (C : Nat → Bool) : sumT (l.filter p) C ≤ sumT l C := by
  induction l with
  | nil => simp [sumT]
  | cons t l ih =>
    rw [List.filter_cons]
    split
    · simp only [sumT, List.map_cons, List.sum_cons] at ih ⊢; omega
    · simp only [sumT, List.map_cons, List.sum_cons] at ih ⊢; omega
theorem sumT_split (v : Nat) (l : List Tab) (C : Nat → Bool) : sumT l C = sumT (restT v l) C + sumT (mineT v l) C := by
  induction l with
  | nil => simp [sumT, restT, mineT]
  | cons t l ih =>
    simp only [restT, mineT, sumT, List.filter_cons, List.map_cons, List.sum_cons] at ih ⊢
    by_cases h : v ∈ t.1
    · simp only [h, decide_true, Bool.not_true, if_true, List.map_cons, List.sum_cons, Bool.false_eq_true, if_false]; omega
    · simp only [h, decide_false, Bool.not_false, if_true, List.map_cons, List.sum_cons, Bool.false_eq_true, if_false]; omega
/-- as far as some, the others nothing -/
def upTo {α : Type} (N c : Nat) (f : Nat → α) (z : α) : List α := (List.range N).map fun j => if j < c then f j else z
theorem upTo_zero {α : Type} (N : Nat) (f : Nat → α) (z : α) : upTo N 0 f z = List.replicate N z := by
  simp only [upTo, Nat.not_lt_zero, if_false]
  rw [List.eq_replicate_iff]
  exact ⟨by simp, fun x hx => by obtain ⟨_, _, rfl⟩ := List.mem_map.1 hx; rfl⟩
theorem upTo_all {α : Type} (N : Nat) (f : Nat → α) (z : α) : upTo N N f z = (List.range N).map f :=
  List.map_congr_left fun j hj => if_pos (by simpa using hj)
theorem upTo_length {α : Type} (N c : Nat) (f : Nat → α) (z : α) : (upTo N c f z).length = N := by simp [upTo]
theorem upTo_set {α : Type} {N c : Nat} (hc : c < N) (f : Nat → α) (z : α) : (upTo N c f z).set c (f c) = upTo N (c + 1) f z := by
  apply List.ext_getElem?
  intro k
  simp only [upTo, List.getElem?_set, List.length_map, List.length_range, List.getElem?_map]
  by_cases e : c = k
  · subst e; simp [hc]
  · rw [if_neg e]
    by_cases hk : k < N
    · rw [List.getElem?_range hk, Option.map_some, Option.map_some]
      by_cases h1 : k < c
      · rw [if_pos h1, if_pos (by omega)]
      · rw [if_neg h1, if_neg (by omega)]
    · rw [List.getElem?_eq_none (by simpa using hk)]; rfl
theorem upTo_same {α : Type} {N c : Nat} (f : Nat → α) (z : α) (h : f c = z) : upTo N (c + 1) f z = upTo N c f z := by
  refine List.map_congr_left fun j _ => ?_
  by_cases e : j = c
  · subst e; rw [if_pos (by omega), if_neg (by omega), h]
  · by_cases h1 : j < c
    · rw [if_pos h1, if_pos (by omega)]
    · rw [if_neg h1, if_neg (by omega)]
end Fil
end
