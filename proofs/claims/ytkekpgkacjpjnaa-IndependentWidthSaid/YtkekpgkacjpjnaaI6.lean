/- Of IndependentChecks IndependentGreedy IndependentMax IndependentWidth: part 6: what the walks rest on, contracts of functions and plain lemmas; no condition but those that each states. -/
import Derived.Test.YtkekpgkacjpjnaaI5
import Derived.ProofKit
import Derived.Deep.Slices
import Derived.Deep.Strs
import Derived.Lib.SmallJoins
import Derived.ChangeSlices
set_option linter.unusedVariables false
set_option linter.unusedSimpArgs false
section
namespace Fil
theorem mostF_val {nb : Nat → List Nat} {near : List (List Nat)} : ∀ (k v : Nat) (inn : List Nat), v + k ≤ near.length → (∀ u, u < near.length → near.getD u [] = nb u) → mostF near k v inn = inn.length + val nb (List.range' v k) (fun u => decide (u ∈ inn))
  | 0, v, inn, _, _ => rfl
  | k + 1, v, inn, hk, hn => by
    have h1 := mostF_val (nb := nb) k (v + 1) inn (by omega) hn
    have h2 := mostF_val (nb := nb) k (v + 1) (inn ++ [v]) (by omega) hn
    have hS : S1 v (fun u => decide (u ∈ inn)) = fun u => decide (u ∈ inn ++ [v]) := by
      funext u
      rw [S1, Bool.eq_iff_iff]
      simp
    have hall : (nb v).all (fun u => !decide (u ∈ inn)) = !decide (∃ u ∈ inn, u ∈ near.getD v []) := by
      rw [hn v (by omega), Bool.eq_iff_iff]
      simp only [List.all_eq_true, Bool.not_eq_true', decide_eq_false_iff_not]
      exact ⟨fun h ⟨u, h1, h2⟩ => h u h2 h1, fun h u h1 h2 => h ⟨u, h2, h1⟩⟩
    rw [mostF, List.range'_succ, val, hall, hS, h1, h2]
    by_cases h : ∃ u ∈ inn, u ∈ near.getD v []
    · rw [if_pos h, decide_eq_true h, if_neg (by simp)]
    · rw [if_neg h, decide_eq_false h, if_pos (by simp), List.length_append, List.length_singleton]
      omega
theorem MaxIn.most {n : Int} {es : List E} (hR : RightG n es) {l : List Nat} (h : MaxIn (nearS (tn es)) n.toNat (fun _ => true) l) : mostF ((List.range n.toNat).map (nearS (tn es))) n.toNat 0 [] = l.length := by
  rw [mostF_val (nb := nearS (tn es)) _ _ _ (by simp) (fun u hu => nearL_get (by simpa using hu))]
  have e : (fun u => decide (u ∈ ([] : List Nat))) = fun _ => false := by funext u; simp
  rw [e, List.length_nil, Nat.zero_add]
  have hnd : (List.range' 0 n.toNat).Nodup := by rw [← List.range_eq_range']; exact List.nodup_range
  have h1 := h.top _ (pickE_ind (nb := nearS (tn es)) (fun u v h => (nearS_lt hR h).2.2.2) (fun v h => (nearS_lt hR h).2.2.1 rfl) (List.range' 0 n.toNat) (fun _ => false) hnd) (fun u hu => by
    have := (pickE_sub (nearS (tn es)) (List.range' 0 n.toNat) (fun _ => false)).mem hu
    rw [← List.range_eq_range'] at this
    exact ⟨by simpa using this, rfl⟩)
  rw [pickE_length] at h1
  have h2 := val_upper h.ind (E := List.range' 0 n.toNat) fun u hu => by rw [← List.range_eq_range']; simpa using (h.mem u hu).1
  omega
end Fil
namespace Go.Proofs.Ytkekpgkacjpjnaa
open Go Go.RowKit Go.Sl Fil
set_option maxRecDepth 100000
set_option maxHeartbeats 8000000
set_option linter.unusedVariables false
set_option linter.unusedSimpArgs false
attribute [local irreducible] Code.wp wpList bodyPost wpQuiet Exit.then Exit.inBlock Post wpAnyH wpOp
theorem Greedy_no (n : Int) (v : Value) (es : List E) (w : World) (hs : Shp v es.length) (hr : RO w No v (esV es)) (hm : es.length < 4611686018427387904) (hR : rightK n es ≠ 0) :
    Calls Try.prog 34 #[.agg #[.int .i64 n, v]] w (Post w No (Just (.tuple #[.slice none 0 0, .int .i64 1]))) := by
  refine enter0 (vs := [_]) Try.func34 rfl Try.ntmps34 rfl ?_
  repeat' first
    | refine k_then ?_
    | refine c_seq ?_
    | refine c_region ?_
    | refine s_nil ?_
    | refine s_assign (by exact rfl) (by exact rfl) ?_
    | refine s_ldk_box (by exact rfl) (by exact rfl) (by exact .head _) (by exact rfl) (by exact rfl) ?_
    | refine o_box (by exact rfl) (by exact rfl) (fun b => ?_)
  refine s_call (by exact rfl) (by exact rfl) (fun w h => Right_ok n v es w hs (ro_old h hr) hm) ?_
  repeat' first
    | refine k_then ?_
    | refine c_seq ?_
    | refine c_region ?_
    | refine s_nil ?_
    | refine s_assign (by exact rfl) (by exact rfl) ?_
    | refine s_neq (by exact rfl) (by exact rfl) (by exact rfl) ?_
    | refine c_ret ?_
    | refine k_then_ret ?_
    | (refine c_cond_p (by exact rfl) (fun h => ?_) (fun h => ?_) <;> try (exfalso; omega))
  refine ret2 [] rfl rfl rfl rfl ⟨rfl, rfl⟩
theorem Max_no (n : Int) (v : Value) (es : List E) (w : World) (hs : Shp v es.length) (hr : RO w No v (esV es)) (hm : es.length < 4611686018427387904) (hR : rightK n es ≠ 0) :
    Calls Try.prog 28 #[.agg #[.int .i64 n, v]] w (Post w No (Just (.tuple #[.slice none 0 0, .int .i64 1]))) := by
  refine enter0 (vs := [_]) Try.func28 rfl Try.ntmps28 rfl ?_
  repeat' first
    | refine k_then ?_
    | refine c_seq ?_
    | refine c_region ?_
    | refine s_nil ?_
    | refine s_assign (by exact rfl) (by exact rfl) ?_
    | refine s_ldk_box (by exact rfl) (by exact rfl) (by exact .head _) (by exact rfl) (by exact rfl) ?_
    | refine o_box (by exact rfl) (by exact rfl) (fun b => ?_)
  refine s_call (by exact rfl) (by exact rfl) (fun w h => Right_ok n v es w hs (ro_old h hr) hm) ?_
  repeat' first
    | refine k_then ?_
    | refine c_seq ?_
    | refine c_region ?_
    | refine s_nil ?_
    | refine s_assign (by exact rfl) (by exact rfl) ?_
    | refine s_neq (by exact rfl) (by exact rfl) (by exact rfl) ?_
    | refine c_ret ?_
    | refine k_then_ret ?_
    | (refine c_cond_p (by exact rfl) (fun h => ?_) (fun h => ?_) <;> try (exfalso; omega))
  refine ret2 [] rfl rfl rfl rfl ⟨rfl, rfl⟩
theorem Width_no (n : Int) (v : Value) (es : List E) (w : World) (hs : Shp v es.length) (hr : RO w No v (esV es)) (hm : es.length < 4611686018427387904) (hR : rightK n es ≠ 0) :
    Calls Try.prog 30 #[.agg #[.int .i64 n, v]] w (Post w No (Just (.tuple #[.slice none 0 0, .int .i64 0, .int .i64 1]))) := by
  refine enter0 (vs := [_]) Try.func30 rfl Try.ntmps30 rfl ?_
  repeat' first
    | refine k_then ?_
    | refine c_seq ?_
    | refine c_region ?_
    | refine s_nil ?_
    | refine s_assign (by exact rfl) (by exact rfl) ?_
    | refine s_ldk_box (by exact rfl) (by exact rfl) (by exact .head _) (by exact rfl) (by exact rfl) ?_
    | refine o_box (by exact rfl) (by exact rfl) (fun b => ?_)
  refine s_call (by exact rfl) (by exact rfl) (fun w h => Right_ok n v es w hs (ro_old h hr) hm) ?_
  repeat' first
    | refine k_then ?_
    | refine c_seq ?_
    | refine c_region ?_
    | refine s_nil ?_
    | refine s_assign (by exact rfl) (by exact rfl) ?_
    | refine s_neq (by exact rfl) (by exact rfl) (by exact rfl) ?_
    | refine c_ret ?_
    | refine k_then_ret ?_
    | (refine c_cond_p (by exact rfl) (fun h => ?_) (fun h => ?_) <;> try (exfalso; omega))
  refine retL _ [.slice none 0 0, .int .i64 0, .int .i64 1] [] rfl ⟨res_tmp rfl, res_tmp rfl, res_tmp rfl, trivial⟩ rfl ⟨rfl, rfl⟩
theorem IndependentChecks_ok (n : Int) (v : Value) (es : List E) (vi : Value) (l : List Int) (w : World) (hs : Shp v es.length) (hr : RO w No v (esV es)) (hs2 : Shp vi l.length) (hr2 : RO w No vi (iV l)) :
    Calls Try.prog 7 #[.agg #[.int .i64 n, v], vi] w (Post w No (Just (.bool true))) := by
  refine enter0 (vs := [_, _]) Try.func7 rfl Try.ntmps7 rfl ?_
  generalize hreg : Code.region 3 _ _ = creg
  repeat' first
    | refine k_then ?_
    | refine c_seq ?_
    | refine c_region ?_
    | refine s_nil ?_
    | refine s_move (by exact rfl) (by exact rfl) ?_
    | refine s_assign (by exact rfl) (by exact rfl) ?_
    | refine s_fa (by exact rfl) (by exact rfl) ?_
    | refine s_ld_box (by exact rfl) (by exact rfl) (by exact .head _) (by exact rfl) ?_
    | refine s_gtr (by exact rfl) (by exact rfl) (by exact rfl) ?_
    | refine s_len (by exact rfl) (by exact rfl) (by assumption) ?_
    | refine s_pick_t (by exact rfl) (by exact rfl) (by exact rfl) ?_
    | refine s_pick_f (by exact rfl) (by exact rfl) (by exact rfl) ?_
    | refine o_box (by exact rfl) (by exact rfl) (fun b => ?_)
    | refine c_skip ?_
    | (refine c_cond_p (by exact rfl) (fun h => ?_) (fun h => ?_) <;> try (exfalso; omega))
    | refine c_cond_t (by exact rfl) ?_
    | (refine g_case (by exact rfl) (by exact rfl) (fun h => ?_) (fun h => ?_) <;> try (exfalso; omega))
    | refine g_skip (by exact rfl) (by exact rfl) (by exact rfl) (by exact rfl) ?_
    | refine w_move (by exact rfl) (by exact rfl) (by exact rfl) (by exact rfl) ?_
    | refine w_gtr (by exact rfl) (by exact rfl) (by exact rfl) (by exact rfl) (by exact rfl) ?_
    | refine w_len (by exact rfl) (by exact rfl) (by exact rfl) (by exact rfl) (by assumption) ?_
  · refine s_call (vs := []) (by exact rfl) (by exact rfl) (fun w h => alive19_ok w) ?_
    repeat' first
      | refine k_then ?_
      | refine s_nil ?_
      | refine s_assign (by exact rfl) (by exact rfl) ?_
      | refine c_ret ?_
      | refine k_then_ret ?_
    refine ret1 [] rfl rfl rfl ⟨rfl, rfl⟩
  · refine s_call (vs := []) (by exact rfl) (by exact rfl) (fun w h => alive19_ok w) ?_
    repeat' first
      | refine k_then ?_
      | refine s_nil ?_
      | refine s_assign (by exact rfl) (by exact rfl) ?_
      | refine c_ret ?_
      | refine k_then_ret ?_
    refine ret1 [] rfl rfl (by exact rfl) ⟨rfl, rfl⟩
  · subst hreg
    refine p_begin0 [(0, true), (1, true), (3, true), (4, true), (2, false), (5, false), (6, true), (7, true), (8, false), (9, true), (10, true)] (by kernel_rfl) ?_
    repeat' first
      | (refine p_at (by exact rfl) ?_
         first
          | refine t_move (by exact rfl) (by exact rfl) (by exact fun _ h => h) ?_
          | refine t_ldk_box (by exact rfl) (by exact rfl) (by exact .head _) (by exact rfl) (by exact rfl) (by exact fun _ h => h) ?_)
    refine p_call (gd := none) (vs := [.agg #[.int .i64 n, v], vi]) (by exact rfl) (by exact rfl) (by exact rfl) (fun w h => Check_ok n v vi es l w hs (ro_old h hr) (by omega) hs2 (ro_old h hr2)) (by exact fun _ h => h) ?_
    skip
    refine p_call (gd := none) (vs := [.agg #[.int .i64 n, v], vi]) (by exact rfl) (by exact rfl) (by exact rfl) (fun w h => refCheck_ok n v vi es l w hs (ro_old h hr) (by omega) hs2 (ro_old h hr2)) (by exact fun _ h => h) ?_
    repeat' first
      | (refine p_at (by exact rfl) ?_
         first
          | refine t_move (by exact rfl) (by exact rfl) (by exact fun _ h => h) ?_
          | refine t_eql (by exact rfl) (by exact rfl) (by exact rfl) (by exact fun _ h => h) ?_
          | (refine t_case (by exact rfl) (by exact rfl) (fun h => ?_) (fun h => ?_) <;> try (exfalso; omega)))
    refine p_callw (vs := []) (by exact rfl) (by exact rfl) (by exact rfl) (by exact rfl) (by exact rfl) (fun w h => alive19_ok w) (by exact fun _ h => h) ?_
    repeat' first
      | refine p_nil ?_
      | (refine p_at (by exact rfl) ?_
         first
          | refine t_assign (by exact rfl) (by exact rfl) (by exact fun _ h => h) ?_
          | refine t_pick_t (by exact rfl) (by exact rfl) (by exact rfl) (by exact fun _ h => h) ?_)
    repeat' first
      | refine k_then ?_
      | refine c_ret ?_
    refine ret1 [] rfl rfl (by exact rfl) ⟨rfl, rfl⟩
theorem IndependentGreedy_ok (n : Int) (v : Value) (es : List E) (w : World) (hs : Shp v es.length) (hr : RO w No v (esV es)) :
    Calls Try.prog 11 #[.agg #[.int .i64 n, v]] w (Post w No (Just (.bool true))) := by
  have hnil : Shp (.slice none 0 0) 0 := ⟨by simp [maxLen], .inl ⟨rfl, rfl⟩⟩
  refine enter0 (vs := [_]) Try.func11 rfl Try.ntmps11 rfl ?_
  repeat' first
    | refine k_then ?_
    | refine c_seq ?_
    | refine c_region ?_
    | refine s_nil ?_
    | refine s_assign (by exact rfl) (by exact rfl) ?_
    | refine s_ldk_box (by exact rfl) (by exact rfl) (by exact .head _) (by exact rfl) (by exact rfl) ?_
    | refine o_box (by exact rfl) (by exact rfl) (fun b => ?_)
  cases hl : (decide (n ≤ 30) && decide ((es.length : Int) ≤ 4 * 30))
  · refine s_call (by exact rfl) (by exact rfl) (fun w h => Light_b n v es.length 30 false w hl hs (by omega)) ?_
    repeat' first
      | refine k_then ?_
      | refine c_seq ?_
      | refine c_region ?_
      | refine s_nil ?_
      | refine s_not (by exact rfl) (by exact rfl) ?_
      | refine c_cond_t (by exact rfl) ?_
    refine s_call (vs := []) (by exact rfl) (by exact rfl) (fun w h => alive19_ok w) ?_
    repeat' first
      | refine k_then ?_
      | refine s_nil ?_
      | refine s_assign (by exact rfl) (by exact rfl) ?_
      | refine c_ret ?_
      | refine k_then_ret ?_
    refine ret1 [] rfl rfl (by exact rfl) ⟨rfl, rfl⟩
  · refine s_call (by exact rfl) (by exact rfl) (fun w h => Light_b n v es.length 30 true w hl hs (by omega)) ?_
    have hn : n ≤ 30 ∧ (es.length : Int) ≤ 120 := by simpa using hl
    repeat' first
      | refine k_then ?_
      | refine c_seq ?_
      | refine c_region ?_
      | refine s_nil ?_
      | refine s_not (by exact rfl) (by exact rfl) ?_
      | refine s_ldk_box (by exact rfl) (by exact rfl) (by exact .head _) (by exact rfl) (by exact rfl) ?_
      | refine c_skip ?_
      | refine c_cond_f (by exact rfl) ?_
    by_cases hR0 : rightK n es = 0
    · have hR := right_iff.1 hR0
      have hnd : ∀ u, (nearS (tn es) u).Nodup := fun u => (List.mergeSort_perm _ _).nodup_iff.2 (nb_nodup hR u)
      refine o_call (by exact rfl) (by exact rfl) (fun w h => Greedy_ok n v es w hs (ro_old h hr) hR) ?_
      rintro _ _ ⟨vl, T, hT, rfl, rfl⟩
      refine know_row (v := vl) (.head _) fun hvl _ => ?_
      repeat' first
        | refine k_then ?_
        | refine c_seq ?_
        | refine c_region ?_
        | refine s_nil ?_
        | refine s_move (by exact rfl) (by exact rfl) ?_
        | refine s_assign (by exact rfl) (by exact rfl) ?_
        | refine s_extract (by exact rfl) (by exact rfl) (by exact rfl) ?_
        | refine s_ldk_box (by exact rfl) (by exact rfl) (by exact .tail _ (.head _)) (by exact rfl) (by exact rfl) ?_
      refine s_call (by exact rfl) (by exact rfl) (fun w h => refRight_ok n v es w hs (ro_old h hr) (by omega)) ?_
      rw [hR0]
      repeat' first
        | refine k_then ?_
        | refine c_seq ?_
        | refine c_region ?_
        | refine s_nil ?_
        | refine s_move (by exact rfl) (by exact rfl) ?_
        | refine s_eql (by exact rfl) (by exact rfl) (by exact rfl) ?_
        | refine s_neq (by exact rfl) (by exact rfl) (by exact rfl) ?_
        | refine c_skip ?_
        | (refine c_cond_p (by exact rfl) (fun h => ?_) (fun h => ?_) <;> try (exfalso; omega))
        | (refine g_case (by exact rfl) (by exact rfl) (fun h => ?_) (fun h => ?_) <;> try (exfalso; omega))
        | refine w_move (by exact rfl) (by exact rfl) (by exact rfl) (by exact rfl) ?_
        | refine w_ldk_box (by exact rfl) (by exact rfl) (by exact rfl) (by exact rfl) (by exact .tail _ (.head _)) (by exact rfl) (by exact rfl) ?_
        | refine g_on (by exact rfl) (by exact rfl) ?_
      refine o_call (by exact rfl) (by exact rfl) (fun w h => refGreedy_ok n v es w hs (ro_old h hr) hR) ?_
      rintro vr _ ⟨T', hT', rfl⟩
      refine know_row (v := vr) (.head _) fun hvr _ => ?_
      have hTT : T' = sortN T := by
        rw [hT', hT]
        have := refG_eq n.toNat _ _ _ [] (Rel.first hR hnd) .nil
        rwa [List.nil_append] at this
      have hTl : T'.length = T.length := by rw [hTT, (sortN_perm T).length_eq]
      rw [← hTT]
      repeat' first
        | refine g_on (by exact rfl) (by exact rfl) ?_
      refine s_call (by exact rfl) (by exact rfl) (fun w h => IntsN_t vl vr T' T' w rfl (hTl ▸ hvl) hvr (ro_own h (.tail _ (.head _))) (ro_own h (.head _))) ?_
      repeat' first
        | refine s_move (by exact rfl) (by exact rfl) ?_
        | refine s_pick_t (by exact rfl) (by exact rfl) (by exact rfl) ?_
        | refine g_on (by exact rfl) (by exact rfl) ?_
      refine s_call (vs := []) (by exact rfl) (by exact rfl) (fun w h => alive19_ok w) ?_
      repeat' first
        | refine k_then ?_
        | refine s_nil ?_
        | refine s_assign (by exact rfl) (by exact rfl) ?_
        | refine s_pick_t (by exact rfl) (by exact rfl) (by exact rfl) ?_
        | refine c_ret ?_
      refine ret1 [] rfl rfl (by exact rfl) ⟨rfl, rfl⟩
    · refine s_call (by exact rfl) (by exact rfl) (fun w h => Greedy_no n v es w hs (ro_old h hr) (by omega) hR0) ?_
      repeat' first
        | refine k_then ?_
        | refine c_seq ?_
        | refine c_region ?_
        | refine s_nil ?_
        | refine s_move (by exact rfl) (by exact rfl) ?_
        | refine s_assign (by exact rfl) (by exact rfl) ?_
        | refine s_extract (by exact rfl) (by exact rfl) (by exact rfl) ?_
        | refine s_ldk_box (by exact rfl) (by exact rfl) (by exact .head _) (by exact rfl) (by exact rfl) ?_
      refine s_call (by exact rfl) (by exact rfl) (fun w h => refRight_ok n v es w hs (ro_old h hr) (by omega)) ?_
      repeat' first
        | refine k_then ?_
        | refine c_seq ?_
        | refine c_region ?_
        | refine s_nil ?_
        | refine s_move (by exact rfl) (by exact rfl) ?_
        | refine s_eql (by exact rfl) (by exact rfl) (by exact rfl) ?_
        | refine s_neq (by exact rfl) (by exact rfl) (by exact rfl) ?_
        | refine s_pick_t (by exact rfl) (by exact rfl) (by exact rfl) ?_
        | (refine c_cond_p (by exact rfl) (fun h => ?_) (fun h => ?_) <;> try (exfalso; omega))
        | (refine g_case (by exact rfl) (by exact rfl) (fun h => ?_) (fun h => ?_) <;> try (exfalso; omega))
        | refine w_move (by exact rfl) (by exact rfl) (by exact rfl) (by exact rfl) ?_
        | refine w_eql (by exact rfl) (by exact rfl) (by exact rfl) (by exact rfl) (by exact rfl) ?_
        | refine w_len (by exact rfl) (by exact rfl) (by exact rfl) (by exact rfl) (by assumption) ?_
        | refine g_on (by exact rfl) (by exact rfl) ?_
      refine s_call (vs := []) (by exact rfl) (by exact rfl) (fun w h => alive19_ok w) ?_
      repeat' first
        | refine k_then ?_
        | refine s_nil ?_
        | refine s_assign (by exact rfl) (by exact rfl) ?_
        | refine s_pick_t (by exact rfl) (by exact rfl) (by exact rfl) ?_
        | refine c_ret ?_
        | refine k_then_ret ?_
      refine ret1 [] rfl rfl (by exact rfl) ⟨rfl, rfl⟩
theorem IndependentMax_ok (n : Int) (v : Value) (es : List E) (w : World) (hs : Shp v es.length) (hr : RO w No v (esV es)) :
    Calls Try.prog 8 #[.agg #[.int .i64 n, v]] w (Post w No (Just (.bool true))) := by
  have hnil : Shp (.slice none 0 0) 0 := ⟨by simp [maxLen], .inl ⟨rfl, rfl⟩⟩
  refine enter0 (vs := [_]) Try.func8 rfl Try.ntmps8 rfl ?_
  repeat' first
    | refine k_then ?_
    | refine c_seq ?_
    | refine c_region ?_
    | refine s_nil ?_
    | refine s_assign (by exact rfl) (by exact rfl) ?_
    | refine s_ldk_box (by exact rfl) (by exact rfl) (by exact .head _) (by exact rfl) (by exact rfl) ?_
    | refine o_box (by exact rfl) (by exact rfl) (fun b => ?_)
  cases hl : (decide (n ≤ 14) && decide ((es.length : Int) ≤ 4 * 14))
  · refine s_call (by exact rfl) (by exact rfl) (fun w h => Light_b n v es.length 14 false w hl hs (by omega)) ?_
    repeat' first
      | refine k_then ?_
      | refine c_seq ?_
      | refine c_region ?_
      | refine s_nil ?_
      | refine s_not (by exact rfl) (by exact rfl) ?_
      | refine c_cond_t (by exact rfl) ?_
    refine s_call (vs := []) (by exact rfl) (by exact rfl) (fun w h => alive19_ok w) ?_
    repeat' first
      | refine k_then ?_
      | refine s_nil ?_
      | refine s_assign (by exact rfl) (by exact rfl) ?_
      | refine c_ret ?_
      | refine k_then_ret ?_
    refine ret1 [] rfl rfl (by exact rfl) ⟨rfl, rfl⟩
  · refine s_call (by exact rfl) (by exact rfl) (fun w h => Light_b n v es.length 14 true w hl hs (by omega)) ?_
    have hn : n ≤ 14 ∧ (es.length : Int) ≤ 56 := by simpa using hl
    repeat' first
      | refine k_then ?_
      | refine c_seq ?_
      | refine c_region ?_
      | refine s_nil ?_
      | refine s_not (by exact rfl) (by exact rfl) ?_
      | refine s_ldk_box (by exact rfl) (by exact rfl) (by exact .head _) (by exact rfl) (by exact rfl) ?_
      | refine c_skip ?_
      | refine c_cond_f (by exact rfl) ?_
    by_cases hR0 : rightK n es = 0
    · have hR := right_iff.1 hR0
      refine o_call (by exact rfl) (by exact rfl) (fun w h => Max_ok n v es w hs (ro_old h hr) hR (by omega)) ?_
      rintro _ _ ⟨vl, l, rfl, rfl, hasc, hM⟩
      have hik := indK_ok hR hasc hM
      have hmost := hM.most hR
      refine know_row (v := vl) (.head _) fun hvl _ => ?_
      repeat' first
        | refine k_then ?_
        | refine c_seq ?_
        | refine c_region ?_
        | refine s_nil ?_
        | refine s_move (by exact rfl) (by exact rfl) ?_
        | refine s_assign (by exact rfl) (by exact rfl) ?_
        | refine s_extract (by exact rfl) (by exact rfl) (by exact rfl) ?_
        | refine s_ldk_box (by exact rfl) (by exact rfl) (by exact .tail _ (.head _)) (by exact rfl) (by exact rfl) ?_
      refine s_call (by exact rfl) (by exact rfl) (fun w h => refRight_ok n v es w hs (ro_old h hr) (by omega)) ?_
      rw [hR0]
      repeat' first
        | refine k_then ?_
        | refine c_seq ?_
        | refine c_region ?_
        | refine s_nil ?_
        | refine s_move (by exact rfl) (by exact rfl) ?_
        | refine s_eql (by exact rfl) (by exact rfl) (by exact rfl) ?_
        | refine s_neq (by exact rfl) (by exact rfl) (by exact rfl) ?_
        | refine c_skip ?_
        | (refine c_cond_p (by exact rfl) (fun h => ?_) (fun h => ?_) <;> try (exfalso; omega))
        | (refine g_case (by exact rfl) (by exact rfl) (fun h => ?_) (fun h => ?_) <;> try (exfalso; omega))
        | refine w_move (by exact rfl) (by exact rfl) (by exact rfl) (by exact rfl) ?_
        | refine w_ldk_box (by exact rfl) (by exact rfl) (by exact rfl) (by exact rfl) (by exact .tail _ (.head _)) (by exact rfl) (by exact rfl) ?_
        | refine g_on (by exact rfl) (by exact rfl) ?_
      refine s_call (vs := [.agg #[.int .i64 n, v], vl]) (by exact rfl) (by exact rfl) (fun w h => refCheck_ok n v vl es (l.map fun z : Nat => (z : Int)) w hs (ro_old h hr) (by omega) (by rw [List.length_map]; exact hvl) (by rw [← nV_iV]; exact ro_own h (.head _))) ?_
      rw [hik]
      repeat' first
        | refine s_move (by exact rfl) (by exact rfl) ?_
        | refine s_pick_t (by exact rfl) (by exact rfl) (by exact rfl) ?_
        | (refine g_case (by exact rfl) (by exact rfl) (fun h => ?_) (fun h => ?_) <;> try (exfalso; omega))
        | refine w_move (by exact rfl) (by exact rfl) (by exact rfl) (by exact rfl) ?_
        | refine w_eql (by exact rfl) (by exact rfl) (by exact rfl) (by exact rfl) (by exact rfl) ?_
        | refine w_len (by exact rfl) (by exact rfl) (by exact rfl) (by exact rfl) (by assumption) ?_
        | refine w_ldk_box (by exact rfl) (by exact rfl) (by exact rfl) (by exact rfl) (by exact .tail _ (.head _)) (by exact rfl) (by exact rfl) ?_
        | refine g_on (by exact rfl) (by exact rfl) ?_
      refine s_call (by exact rfl) (by exact rfl) (fun w h => Most_ok n v es w hs (ro_old h hr) hR) ?_
      rw [hmost]
      repeat' first
        | refine s_move (by exact rfl) (by exact rfl) ?_
        | refine s_pick_t (by exact rfl) (by exact rfl) (by exact rfl) ?_
        | (refine g_case (by exact rfl) (by exact rfl) (fun h => ?_) (fun h => ?_) <;> try (exfalso; omega))
        | refine w_eql (by exact rfl) (by exact rfl) (by exact rfl) (by exact rfl) (by exact rfl) ?_
        | refine g_on (by exact rfl) (by exact rfl) ?_
      refine s_call (vs := []) (by exact rfl) (by exact rfl) (fun w h => alive19_ok w) ?_
      repeat' first
        | refine k_then ?_
        | refine s_nil ?_
        | refine s_assign (by exact rfl) (by exact rfl) ?_
        | refine s_pick_t (by exact rfl) (by exact rfl) (by exact rfl) ?_
        | refine c_ret ?_
      refine ret1 [] rfl rfl (by exact rfl) ⟨rfl, rfl⟩
    · refine s_call (by exact rfl) (by exact rfl) (fun w h => Max_no n v es w hs (ro_old h hr) (by omega) hR0) ?_
      repeat' first
        | refine k_then ?_
        | refine c_seq ?_
        | refine c_region ?_
        | refine s_nil ?_
        | refine s_move (by exact rfl) (by exact rfl) ?_
        | refine s_assign (by exact rfl) (by exact rfl) ?_
        | refine s_extract (by exact rfl) (by exact rfl) (by exact rfl) ?_
        | refine s_ldk_box (by exact rfl) (by exact rfl) (by exact .head _) (by exact rfl) (by exact rfl) ?_
      refine s_call (by exact rfl) (by exact rfl) (fun w h => refRight_ok n v es w hs (ro_old h hr) (by omega)) ?_
      repeat' first
        | refine k_then ?_
        | refine c_seq ?_
        | refine c_region ?_
        | refine s_nil ?_
        | refine s_move (by exact rfl) (by exact rfl) ?_
        | refine s_eql (by exact rfl) (by exact rfl) (by exact rfl) ?_
        | refine s_neq (by exact rfl) (by exact rfl) (by exact rfl) ?_
        | refine s_pick_t (by exact rfl) (by exact rfl) (by exact rfl) ?_
        | (refine c_cond_p (by exact rfl) (fun h => ?_) (fun h => ?_) <;> try (exfalso; omega))
        | (refine g_case (by exact rfl) (by exact rfl) (fun h => ?_) (fun h => ?_) <;> try (exfalso; omega))
        | refine w_move (by exact rfl) (by exact rfl) (by exact rfl) (by exact rfl) ?_
        | refine w_eql (by exact rfl) (by exact rfl) (by exact rfl) (by exact rfl) (by exact rfl) ?_
        | refine w_len (by exact rfl) (by exact rfl) (by exact rfl) (by exact rfl) (by assumption) ?_
        | refine g_on (by exact rfl) (by exact rfl) ?_
      refine s_call (vs := []) (by exact rfl) (by exact rfl) (fun w h => alive19_ok w) ?_
      repeat' first
        | refine k_then ?_
        | refine s_nil ?_
        | refine s_assign (by exact rfl) (by exact rfl) ?_
        | refine s_pick_t (by exact rfl) (by exact rfl) (by exact rfl) ?_
        | refine c_ret ?_
        | refine k_then_ret ?_
      refine ret1 [] rfl rfl (by exact rfl) ⟨rfl, rfl⟩
theorem IndependentWidth_ok (n : Int) (v : Value) (es : List E) (w : World) (hs : Shp v es.length) (hr : RO w No v (esV es)) :
    Calls Try.prog 9 #[.agg #[.int .i64 n, v]] w (Post w No (Just (.bool true))) := by
  have hnil : Shp (.slice none 0 0) 0 := ⟨by simp [maxLen], .inl ⟨rfl, rfl⟩⟩
  refine enter0 (vs := [_]) Try.func9 rfl Try.ntmps9 rfl ?_
  repeat' first
    | refine k_then ?_
    | refine c_seq ?_
    | refine c_region ?_
    | refine s_nil ?_
    | refine s_assign (by exact rfl) (by exact rfl) ?_
    | refine s_ldk_box (by exact rfl) (by exact rfl) (by exact .head _) (by exact rfl) (by exact rfl) ?_
    | refine o_box (by exact rfl) (by exact rfl) (fun b => ?_)
  cases hl : (decide (n ≤ 25) && decide ((es.length : Int) ≤ 4 * 25))
  · refine s_call (by exact rfl) (by exact rfl) (fun w h => Light_b n v es.length 25 false w hl hs (by omega)) ?_
    repeat' first
      | refine k_then ?_
      | refine c_seq ?_
      | refine c_region ?_
      | refine s_nil ?_
      | refine s_not (by exact rfl) (by exact rfl) ?_
      | refine c_cond_t (by exact rfl) ?_
    refine s_call (vs := []) (by exact rfl) (by exact rfl) (fun w h => alive19_ok w) ?_
    repeat' first
      | refine k_then ?_
      | refine s_nil ?_
      | refine s_assign (by exact rfl) (by exact rfl) ?_
      | refine c_ret ?_
      | refine k_then_ret ?_
    refine ret1 [] rfl rfl (by exact rfl) ⟨rfl, rfl⟩
  · refine s_call (by exact rfl) (by exact rfl) (fun w h => Light_b n v es.length 25 true w hl hs (by omega)) ?_
    have hn : n ≤ 25 ∧ (es.length : Int) ≤ 100 := by simpa using hl
    repeat' first
      | refine k_then ?_
      | refine c_seq ?_
      | refine c_region ?_
      | refine s_nil ?_
      | refine s_not (by exact rfl) (by exact rfl) ?_
      | refine s_ldk_box (by exact rfl) (by exact rfl) (by exact .head _) (by exact rfl) (by exact rfl) ?_
      | refine c_skip ?_
      | refine c_cond_f (by exact rfl) ?_
    by_cases hR0 : rightK n es = 0
    · have hR := right_iff.1 hR0
      have hnd : ∀ u, (nearS (tn es) u).Nodup := fun u => (List.mergeSort_perm _ _).nodup_iff.2 (nb_nodup hR u)
      refine o_call (by exact rfl) (by exact rfl) (fun w h => Width_ok n v es w hs (ro_old h hr) hR) ?_
      rintro _ _ ⟨vl, T, hT, rfl, rfl⟩
      refine know_row (v := vl) (.head _) fun hvl _ => ?_
      repeat' first
        | refine k_then ?_
        | refine c_seq ?_
        | refine c_region ?_
        | refine s_nil ?_
        | refine s_move (by exact rfl) (by exact rfl) ?_
        | refine s_assign (by exact rfl) (by exact rfl) ?_
        | refine s_extract (by exact rfl) (by exact rfl) (by exact rfl) ?_
        | refine s_ldk_box (by exact rfl) (by exact rfl) (by exact .tail _ (.head _)) (by exact rfl) (by exact rfl) ?_
      refine s_call (by exact rfl) (by exact rfl) (fun w h => refRight_ok n v es w hs (ro_old h hr) (by omega)) ?_
      rw [hR0]
      repeat' first
        | refine k_then ?_
        | refine c_seq ?_
        | refine c_region ?_
        | refine s_nil ?_
        | refine s_neq (by exact rfl) (by exact rfl) (by exact rfl) ?_
        | refine s_ldk_box (by exact rfl) (by exact rfl) (by exact .tail _ (.head _)) (by exact rfl) (by exact rfl) ?_
        | refine c_skip ?_
        | (refine c_cond_p (by exact rfl) (fun h => ?_) (fun h => ?_) <;> try (exfalso; omega))
      refine o_call (by exact rfl) (by exact rfl) (fun w h => refWidth_ok n v es w hs (ro_old h hr) hR) ?_
      rintro _ _ ⟨vr, T', hT', rfl, rfl⟩
      have hTT : T'.map (fun p => (p.1, p.2.length)) = T.map fun p => (p.1, p.2.length) := by
        rw [hT', hT]
        exact refS_eq n.toNat _ _ _ (Rel.first hR hnd)
      have hw := widthL_congr hTT
      have hf : T'.map Prod.fst = T.map Prod.fst := by
        have := congrArg (List.map Prod.fst) hTT
        rw [List.map_map, List.map_map] at this
        exact this
      have hlen : T'.length = T.length := by simpa using congrArg List.length hTT
      rw [hw, hf, hlen]
      refine know_row (v := vr) (.head _) fun hvr _ => ?_
      repeat' first
        | refine k_then ?_
        | refine c_seq ?_
        | refine c_region ?_
        | refine s_nil ?_
        | refine s_move (by exact rfl) (by exact rfl) ?_
        | refine s_assign (by exact rfl) (by exact rfl) ?_
        | refine s_eql (by exact rfl) (by exact rfl) (by exact rfl) ?_
        | refine s_extract (by exact rfl) (by exact rfl) (by exact rfl) ?_
        | (refine g_case (by exact rfl) (by exact rfl) (fun h => ?_) (fun h => ?_) <;> try (exfalso; omega))
        | refine w_move (by exact rfl) (by exact rfl) (by exact rfl) (by exact rfl) ?_
        | refine g_on (by exact rfl) (by exact rfl) ?_
      refine s_call (by exact rfl) (by exact rfl) (fun w h => IntsN_t vl vr (T.map Prod.fst) (T.map Prod.fst) w rfl (by rw [List.length_map]; exact hvl) (by rw [List.length_map]; exact hvr) (ro_own h (.tail _ (.head _))) (ro_own h (.head _))) ?_
      repeat' first
        | refine s_move (by exact rfl) (by exact rfl) ?_
        | refine s_pick_t (by exact rfl) (by exact rfl) (by exact rfl) ?_
        | (refine g_case (by exact rfl) (by exact rfl) (fun h => ?_) (fun h => ?_) <;> try (exfalso; omega))
        | refine w_move (by exact rfl) (by exact rfl) (by exact rfl) (by exact rfl) ?_
        | refine w_eql (by exact rfl) (by exact rfl) (by exact rfl) (by exact rfl) (by exact rfl) ?_
        | refine g_on (by exact rfl) (by exact rfl) ?_
      refine s_call (vs := []) (by exact rfl) (by exact rfl) (fun w h => alive19_ok w) ?_
      repeat' first
        | refine k_then ?_
        | refine s_nil ?_
        | refine s_assign (by exact rfl) (by exact rfl) ?_
        | refine s_pick_t (by exact rfl) (by exact rfl) (by exact rfl) ?_
        | refine c_ret ?_
      refine ret1 [] rfl rfl (by exact rfl) ⟨rfl, rfl⟩
    · refine s_call (by exact rfl) (by exact rfl) (fun w h => Width_no n v es w hs (ro_old h hr) (by omega) hR0) ?_
      repeat' first
        | refine k_then ?_
        | refine c_seq ?_
        | refine c_region ?_
        | refine s_nil ?_
        | refine s_move (by exact rfl) (by exact rfl) ?_
        | refine s_assign (by exact rfl) (by exact rfl) ?_
        | refine s_extract (by exact rfl) (by exact rfl) (by exact rfl) ?_
        | refine s_ldk_box (by exact rfl) (by exact rfl) (by exact .head _) (by exact rfl) (by exact rfl) ?_
      refine s_call (by exact rfl) (by exact rfl) (fun w h => refRight_ok n v es w hs (ro_old h hr) (by omega)) ?_
      repeat' first
        | refine k_then ?_
        | refine c_seq ?_
        | refine c_region ?_
        | refine s_nil ?_
        | refine s_move (by exact rfl) (by exact rfl) ?_
        | refine s_eql (by exact rfl) (by exact rfl) (by exact rfl) ?_
        | refine s_neq (by exact rfl) (by exact rfl) (by exact rfl) ?_
        | refine s_pick_t (by exact rfl) (by exact rfl) (by exact rfl) ?_
        | (refine c_cond_p (by exact rfl) (fun h => ?_) (fun h => ?_) <;> try (exfalso; omega))
        | (refine g_case (by exact rfl) (by exact rfl) (fun h => ?_) (fun h => ?_) <;> try (exfalso; omega))
        | refine w_move (by exact rfl) (by exact rfl) (by exact rfl) (by exact rfl) ?_
        | refine w_eql (by exact rfl) (by exact rfl) (by exact rfl) (by exact rfl) (by exact rfl) ?_
        | refine w_len (by exact rfl) (by exact rfl) (by exact rfl) (by exact rfl) (by assumption) ?_
        | refine g_on (by exact rfl) (by exact rfl) ?_
      refine s_call (vs := []) (by exact rfl) (by exact rfl) (fun w h => alive19_ok w) ?_
      repeat' first
        | refine k_then ?_
        | refine s_nil ?_
        | refine s_assign (by exact rfl) (by exact rfl) ?_
        | refine s_pick_t (by exact rfl) (by exact rfl) (by exact rfl) ?_
        | refine c_ret ?_
        | refine k_then_ret ?_
      refine ret1 [] rfl rfl (by exact rfl) ⟨rfl, rfl⟩
end Go.Proofs.Ytkekpgkacjpjnaa
end
section
namespace Go.Proofs.Ytkekpgkacjpjnaa
open Go.ChangeShapes Go.WideShapes Go.ChangeAt Go.RowKit Go.Joins Go.Deep Go.Sl Fil
set_option maxRecDepth 100000
set_option linter.unusedVariables false
set_option linter.unusedSimpArgs false
theorem row_own : ownKnob Try.prog.godebug = none := by kernel_rfl
theorem row_laid : laidOutB Try.prog = true := by kernel_rfl
theorem cells_graph : Try.prog.cellsOf 24 = 2 := by kernel_rfl
theorem cells_edge : Try.prog.cellsOf 47 = 3 := by kernel_rfl
theorem cells_int : Try.prog.cellsOf 3 = 1 := by kernel_rfl
section
variable {H : Type} {enc : TypeId × Value → H}
theorem slice_spot {P : Program} {w : World} {r : Reach} {base : Nat} {t e : TypeId} {a : Addr} {len cap : Nat} (hu : P.underlying t = some (.slice e)) (h : Cell.okWide P w r base t (.slice (some a) len cap)) : a.spot = none := by
  simp only [Cell.okWide, hu, Cell.ok, World.has] at h
  exact h.2.2.2.1
theorem es_list {n : Nat} {f : Nat → Nat → Value} (h : ∀ i, i < n → ∃ a b c, f i 0 = .int .i64 a ∧ f i 1 = .int .i64 b ∧ f i 2 = .int .i64 c) : ∃ es : List E, es.length = n ∧ ∀ (i : Nat) j u, i < n → j < 3 → (esV es)[i * 3 + j]? = some u → u = f i j := by
  induction n with
  | zero => exact ⟨[], rfl, fun i j u hi => by omega⟩
  | succ n ih =>
    obtain ⟨es, h1, h2⟩ := ih fun i hi => h i (by omega)
    obtain ⟨a, b, c, ha, hb, hc⟩ := h n (by omega)
    refine ⟨es ++ [(a, b, c)], by simp [h1], fun i j u hi hj hu => ?_⟩
    rw [esV_snoc] at hu
    have hl := esV_length es
    by_cases hin : i < n
    · rw [List.getElem?_append_left (by omega)] at hu
      exact h2 i j u hin hj hu
    · obtain rfl : i = n := by omega
      rw [List.getElem?_append_right (by omega), show i * 3 + j - (esV es).length = j from by omega] at hu
      match j, hj with
      | 0, _ => simp [eV] at hu; rw [← hu, ha]
      | 1, _ => simp [eV] at hu; rw [← hu, hb]
      | 2, _ => simp [eV] at hu; rw [← hu, hc]
theorem open_edges {W : World} {base fuel : Nat} {v : Value} {y : DataW H × List MemPlace} (hv : Cell.okWide Try.prog W .any base 22 v) (h : DataW.trod enc Try.prog W 0 (fun _ => true) true fuel 22 [v] = some y) :
    ∃ es : List E, Shp v es.length ∧ RO W No v (esV es) := by
  rcases open_slice Try.underlying22 h with ⟨hcs, _⟩ | ⟨a, len, cap, m, n, D, Pl, hcs, _, hl, hm, hmm, _, hx⟩
  · simp only [List.cons.injEq, and_true] at hcs
    subst hcs
    exact ⟨[], ⟨by simp [maxLen], .inl ⟨rfl, rfl⟩⟩, RO.of_rd fun j u hj => by simp [esV] at hj⟩
  · simp only [List.cons.injEq, and_true] at hcs
    subst hcs
    have hsp := slice_spot Try.underlying22 hv
    obtain ⟨g, off, sp⟩ := a
    dsimp only at hsp
    subst hsp
    simp only [if_true] at hmm
    subst hmm
    have key : ∀ i, i < len → ∃ a b c, W.cell? ⟨g, off + (i * 3 + 0), none⟩ = some (.int .i64 a) ∧ W.cell? ⟨g, off + (i * 3 + 1), none⟩ = some (.int .i64 b) ∧ W.cell? ⟨g, off + (i * 3 + 2), none⟩ = some (.int .i64 c) := by
      intro i hi
      obtain ⟨cs, h1, h2⟩ := hx i (by omega)
      rw [cells_edge] at h1
      obtain ⟨_, hlen, hc⟩ := World.cells?_some h1
      obtain ⟨y0, y1, y2, k, _, _, t0, t1, t2⟩ := trod_struct3 Try.underlying47 h2
      obtain ⟨a, e0, -, -⟩ := DataW.trod_int Try.underlying3 t0
      obtain ⟨b, e1, -, -⟩ := DataW.trod_int Try.underlying3 t1
      obtain ⟨c, e2, -, -⟩ := DataW.trod_int Try.underlying2 t2
      match cs, hlen, hc, e0, e1, e2 with
      | [x0, x1, x2], _, hc, e0, e1, e2 =>
        have c0 := hc 0 (by omega)
        have c1 := hc 1 (by omega)
        have c2 := hc 2 (by omega)
        have f0 : x0 = .int .i64 a := by
          have : [x0] = [.int .i64 a] := e0
          simpa using this
        have f1 : x1 = .int .i64 b := by
          have : [x1] = [.int .i64 b] := e1
          simpa using this
        have f2 : x2 = .int .i64 c := by
          have : [x2] = [.int .i64 c] := e2
          simpa using this
        subst f0 f1 f2
        refine ⟨a, b, c, ?_, ?_, ?_⟩
        · rw [Deep.add_add] at c0
          rw [show (⟨g, off + (i * 3 + 0), none⟩ : Addr) = (⟨g, off, none⟩ : Addr).add (i * 3 + 0) from by simp [Addr.add]]
          exact c0
        · rw [Deep.add_add] at c1
          rw [show (⟨g, off + (i * 3 + 1), none⟩ : Addr) = (⟨g, off, none⟩ : Addr).add (i * 3 + 1) from by simp [Addr.add]]
          exact c1
        · rw [Deep.add_add] at c2
          rw [show (⟨g, off + (i * 3 + 2), none⟩ : Addr) = (⟨g, off, none⟩ : Addr).add (i * 3 + 2) from by simp [Addr.add]]
          exact c2
    obtain ⟨es, he1, he2⟩ := es_list (n := len) (f := fun i j => (W.cell? ⟨g, off + (i * 3 + j), none⟩).getD undef) (fun i hi => by
      obtain ⟨a, b, c, h0, h1, h2⟩ := key i hi
      exact ⟨a, b, c, congrArg (fun x => Option.getD x undef) h0, congrArg (fun x => Option.getD x undef) h1, congrArg (fun x => Option.getD x undef) h2⟩)
    subst he1
    refine ⟨es, ⟨by omega, .inr ⟨g, off, m, rfl, hl, hm⟩⟩, RO.of_rd fun j u hj => ⟨g, off, es.length, m, rfl, ?_⟩⟩
    have hlt := (List.getElem?_eq_some_iff.1 hj).1
    rw [esV_length] at hlt
    have hd : j / 3 * 3 + j % 3 = j := by omega
    have hu := he2 (j / 3) (j % 3) u (by omega) (by omega) (by rw [hd]; exact hj)
    rw [hd] at hu
    obtain ⟨a, b, c, h0, h1, h2⟩ := key (j / 3) (by omega)
    have hex : ∃ x, W.cell? ⟨g, off + j, none⟩ = some x := by
      have : j % 3 = 0 ∨ j % 3 = 1 ∨ j % 3 = 2 := by omega
      rcases this with h | h | h
      · exact ⟨_, by rw [← hd, h]; exact h0⟩
      · exact ⟨_, by rw [← hd, h]; exact h1⟩
      · exact ⟨_, by rw [← hd, h]; exact h2⟩
    obtain ⟨x, hx⟩ := hex
    rw [hx] at hu ⊢
    rw [hu]
    rfl
theorem open_graph {W : World} {base : Nat} {v : Value} {d : DataW H} {p : List MemPlace} (hv : Value.okWide Try.prog W .any base 24 v) (h : DataW.Trod enc Try.prog W 0 (fun _ => true) true 24 v d p) :
    ∃ (n : Int) (u : Value) (es : List E), v = .agg #[.int .i64 n, u] ∧ Shp u es.length ∧ RO W No u (esV es) := by
  obtain ⟨c0, c1, y0, y1, m, rfl, -, -, hy0, hy1⟩ := open_agg2 Try.underlying24 (by kernel_rfl) cells_graph hv h
  obtain ⟨a, e0, -, -⟩ := DataW.trod_int Try.underlying3 hy0
  simp only [List.cons.injEq, and_true] at e0
  subst e0
  have hc : Cell.okWide Try.prog W .any base 22 c1 := by
    simp only [Value.okWide, Try.underlying24] at hv
    obtain ⟨cs, hcs, _, ts, hts, _, hall⟩ := hv
    obtain rfl : cs = #[.int .i64 a, c1] := by simpa using hcs.symm
    have e : Try.prog.cellTypes Try.prog.depth 24 = some [3, 22] := by kernel_rfl
    rw [e] at hts
    obtain rfl : [3, 22] = ts := by simpa using hts
    obtain ⟨u, hu, hok⟩ := hall 1 c1 rfl
    obtain rfl : 22 = u := by simpa using hu
    exact hok
  obtain ⟨es, h1, h2⟩ := open_edges hc hy1
  exact ⟨a, c1, es, rfl, h1, h2⟩
end
end Go.Proofs.Ytkekpgkacjpjnaa
end
section
namespace Go.Proofs.Ytkekpgkacjpjnaa
open Go.ChangeShapes Go.WideShapes Go.ChangeAt Go.RowKit Go.Joins Go.Deep Go.Sl Fil
set_option maxRecDepth 100000
set_option linter.unusedVariables false
set_option linter.unusedSimpArgs false
section
variable {H : Type} {enc : TypeId × Value → H}
theorem okc_one {W : World} {base : Nat} {v x : Value} (hc : Cell.okWide Try.prog W .any base 27 v) (h : v.cells.toList = [x]) : v = x := by
  cases v with
  | agg cs => simp [Cell.okWide, Try.underlying27, Cell.ok] at hc
  | _ => simpa [Value.cells] using h
theorem open_numbersw {W : World} {base : Nat} {v : Value} {d : DataW H} {p : List MemPlace} (hv : Value.okWide Try.prog W .any base 27 v) (h : DataW.Trod enc Try.prog W 0 (fun _ => true) true 27 v d p) :
    ∃ zs : List Int, Shp v zs.length ∧ RO W No v (iV zs) ∧ ∀ z ∈ zs, (Lit.int .i64 z).wf = true := by
  obtain ⟨fuel, hf⟩ := h
  have hc : Cell.okWide Try.prog W .any base 27 v := by
    simp only [Value.okWide, Try.underlying27] at hv
    exact hv
  rcases open_ints Try.underlying27 Try.underlying3 cells_int hf with ⟨hcs, _⟩ | ⟨a, len, cap, zs, hcs, _, hl, hm, hzl, _, hx, hw⟩
  · have hv0 : v = .slice none 0 0 := okc_one hc hcs
    subst hv0
    exact ⟨[], ⟨by simp [maxLen], .inl ⟨rfl, rfl⟩⟩, RO.of_rd fun j u hj => by simp [iV] at hj, by simp⟩
  · have hv0 : v = .slice (some a) len cap := okc_one hc hcs
    subst hv0
    have hsp := slice_spot Try.underlying27 hc
    obtain ⟨g, off, sp⟩ := a
    dsimp only at hsp
    subst hsp
    rw [if_pos rfl] at hzl
    have htl : (zs.take len).length = len := by rw [List.length_take]; omega
    refine ⟨zs.take len, ⟨by rw [htl]; omega, .inr ⟨g, off, cap, by rw [htl], by rw [htl]; exact hl, hm⟩⟩, RO.of_rd fun j u hj => ⟨g, off, len, cap, rfl, ?_⟩, fun z hz => hw z (List.mem_of_mem_take hz)⟩
    have hlt := (List.getElem?_eq_some_iff.1 hj).1
    simp only [iV, List.length_map, htl] at hlt
    have h2 := hx j (by omega)
    rw [show (⟨g, off, none⟩ : Addr).add j = ⟨g, off + j, none⟩ from by simp [Addr.add]] at h2
    rw [h2, ← hj]
    simp only [iV, List.getElem?_map, List.getElem?_take, if_pos hlt]
    rw [List.getD_eq_getElem?_getD, List.getElem?_eq_getElem (by omega)]
    rfl
theorem open_numbers {W : World} {base : Nat} {v : Value} {d : DataW H} {p : List MemPlace} (hv : Value.okWide Try.prog W .any base 27 v) (h : DataW.Trod enc Try.prog W 0 (fun _ => true) true 27 v d p) :
    ∃ zs : List Int, Shp v zs.length ∧ RO W No v (iV zs) := (open_numbersw hv h).imp fun _ h => ⟨h.1, h.2.1⟩
end
end Go.Proofs.Ytkekpgkacjpjnaa
end
