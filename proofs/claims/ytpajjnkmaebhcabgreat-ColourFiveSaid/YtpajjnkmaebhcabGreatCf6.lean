/- Of ColourFive: part 6: what the walks rest on, contracts of functions and plain lemmas; no condition but those that each states. -/
import Derived.Test.YtpajjnkmaebhcabGreatCf5
import Derived.ProofKit
import Derived.Deep.Slices
import Derived.Deep.Strs
import Derived.Lib.SmallJoins
import Derived.ChangeSlices
import Derived.SizedLaws
set_option linter.unusedVariables false
set_option linter.unusedSimpArgs false
section
set_option linter.unusedVariables false
namespace Fil
theorem any_take {α : Type} {p : α → Bool} {l : List α} {k : Nat} {x : α} (hx : l[k]? = some x) (h : (l.take k).any p = false) : (l.take (k + 1)).any p = p x := by
  rw [List.take_add_one, hx, List.any_append, h]; simp
theorem any_at {α : Type} {p : α → Bool} {l : List α} {k : Nat} {x : α} (hx : l[k]? = some x) (h : p x = true) : l.any p = true := List.any_eq_true.2 ⟨x, List.mem_of_getElem? hx, h⟩
end Fil
namespace Go.Proofs.YtpajjnkmaebhcabGreat
open Go Go.RowKit Go.Sl Fil
set_option maxRecDepth 100000
set_option maxHeartbeats 8000000
set_option linter.unusedVariables false
set_option linter.unusedSimpArgs false
attribute [local irreducible] Code.wp wpList bodyPost wpQuiet Exit.then Exit.inBlock Post wpAnyH wpOp
theorem refColCheck_ok (n : Int) (v vi : Value) (es : List E) (c : List Int) (most : Int) (w : World) (hs : Shp v es.length) (hr : RO w No v (esV es)) (hm : es.length < 4611686018427387904) (hs2 : Shp vi c.length) (hr2 : RO w No vi (iV c)) :
    Calls Tryz.prog 14 #[.agg #[.int .i64 n, v], vi, .int .i64 most] w (Post w No (Just (.int .i64 (colK n es c most)))) := by
  have hlm := hs2.1
  simp only [maxLen] at hlm
  refine enter0 (vs := [_, _, _]) Tryz.func14 rfl Tryz.ntmps14 rfl ?_
  repeat' first
    | refine k_then ?_ | refine c_seq ?_ | refine c_region ?_ | refine s_nil ?_ | refine s_assign (by exact rfl) (by exact rfl) ?_ | refine s_ldk_box (by exact rfl) (by exact rfl) (by exact .head _) (by exact rfl) (by exact rfl) ?_ | refine o_box (by exact rfl) (by exact rfl) (fun b => ?_) | fail
  revert b; intro b3
  refine s_call (by exact rfl) (by exact rfl) (fun w h => refRight_ok n v es w hs (ro_old h hr) hm) ?_
  by_cases hR0 : rightK n es = 0
  case neg =>
    repeat' first
      | refine k_then ?_ | refine c_seq ?_ | refine c_region ?_ | refine s_nil ?_ | refine s_assign (by exact rfl) (by exact rfl) ?_ | refine s_neq (by exact rfl) (by exact rfl) (by exact rfl) ?_ | refine c_ret ?_ | refine k_then_ret ?_ | (refine c_cond_p (by exact rfl) (fun h => ?_) (fun h => ?_) <;> try (exfalso; omega)) | fail
    all_goals first
      | exact absurd (Classical.byContradiction h) hR0
      | refine ret1 [] rfl rfl rfl ⟨by rw [colK, if_neg hR0], rfl⟩
  have hi : colK n es c most = if (c.length : Int) ≠ n then 13 else if c.any (outC most) then 13 else if es.any (sameE c) then 13 else 0 := by rw [colK, if_pos hR0]
  have hR := right_iff.1 hR0
  rw [hR0]
  by_cases hl : (c.length : Int) = n
  case neg =>
    rw [if_pos hl] at hi
    repeat' first
      | refine k_then ?_ | refine c_seq ?_ | refine c_region ?_ | refine s_nil ?_ | refine s_move (by exact rfl) (by exact rfl) ?_ | refine s_assign (by exact rfl) (by exact rfl) ?_ | refine s_fa (by exact rfl) (by exact rfl) ?_ | refine s_ld_box (by exact rfl) (by exact rfl) (by exact .head _) (by exact rfl) ?_ | refine s_neq (by exact rfl) (by exact rfl) (by exact rfl) ?_ | refine s_len (by exact rfl) (by exact rfl) (by assumption) ?_ | refine c_skip ?_ | refine c_ret ?_ | refine k_then_ret ?_ | (refine c_cond_p (by exact rfl) (fun h => ?_) (fun h => ?_) <;> try (exfalso; omega)) | fail
    refine ret1 [] rfl rfl rfl ⟨by rw [hi], rfl⟩
  rw [if_neg (by omega)] at hi
  repeat' first
    | refine k_then ?_ | refine c_seq ?_ | refine c_region ?_ | refine s_nil ?_ | refine s_move (by exact rfl) (by exact rfl) ?_ | refine s_assign (by exact rfl) (by exact rfl) ?_ | refine s_fa (by exact rfl) (by exact rfl) ?_ | refine s_ld_box (by exact rfl) (by exact rfl) (by exact .head _) (by exact rfl) ?_ | refine s_neq (by exact rfl) (by exact rfl) (by exact rfl) ?_ | refine s_len (by exact rfl) (by exact rfl) (by assumption) ?_ | refine c_block ?_ | refine c_skip ?_ | (refine c_cond_p (by exact rfl) (fun h => ?_) (fun h => ?_) <;> try (exfalso; omega)) | fail
  refine c_loop (fun k : Nat => k ≤ c.length ∧ (c.take k).any (outC most) = false) (fun k => [(1, vi), (2, .int .i64 most), (3, .pointer (some ⟨b3, 0, none⟩)), (7, .int .i64 (k : Int))]) (fun _ => [boxHP b3 24 [.int .i64 n, v]]) (fun k => c.length - k) 0 [0] ⟨by omega, by simp⟩ (by exact rfl) ⟨rfl, rfl, rfl, rfl, trivial⟩ ?_
  rintro k ⟨hk, hq⟩
  by_cases hlt : k < c.length
  · obtain ⟨x, hx⟩ : ∃ x, c[k]? = some x := ⟨_, List.getElem?_eq_getElem hlt⟩
    have hcx : (iV c)[k * 1]? = some (.int .i64 x) := by simp [iV, hx]
    have h3 := any_take hx hq
    by_cases hox : x < 0 ∨ most ≤ x
    · have ho : c.any (outC most) = true := any_at hx (by simpa [outC] using hox)
      rw [ho, if_pos rfl] at hi
      repeat' first
        | refine k_then ?_ | refine c_seq ?_ | refine c_region ?_ | refine s_nil ?_ | refine s_move (by exact rfl) (by exact rfl) ?_ | refine s_assign (by exact rfl) (by exact rfl) ?_ | refine s_lss (by exact rfl) (by exact rfl) (by exact rfl) ?_ | refine s_len (by exact rfl) (by exact rfl) (by assumption) ?_ | refine s_idx (by exact rfl) (by exact rfl) (by exact rfl) (by assumption) (by first | assumption | omega) ?_ | refine s_pick_t (by exact rfl) (by exact rfl) (by exact rfl) ?_ | refine s_pick_f (by exact rfl) (by exact rfl) (by exact rfl) ?_ | refine s_ld_ro (by exact rfl) (by exact rfl) (by assumption) (by assumption) ?_ | refine c_block ?_ | refine c_skip ?_ | refine c_ret ?_ | refine k_then_ret ?_ | refine k_blk_ret ?_ | (refine c_cond_p (by exact rfl) (fun h => ?_) (fun h => ?_) <;> try (exfalso; omega)) | refine c_cond_t (by exact rfl) ?_ | (refine g_case (by exact rfl) (by exact rfl) (fun h => ?_) (fun h => ?_) <;> try (exfalso; omega)) | refine g_skip (by exact rfl) (by exact rfl) (by exact rfl) (by exact rfl) ?_ | refine w_move (by exact rfl) (by exact rfl) (by exact rfl) (by exact rfl) ?_ | refine w_geq (by exact rfl) (by exact rfl) (by exact rfl) (by exact rfl) (by exact rfl) ?_ | refine w_idx (by exact rfl) (by exact rfl) (by exact rfl) (by exact rfl) (by exact rfl) (by assumption) (by first | assumption | omega) ?_ | refine w_ld_ro (by exact rfl) (by exact rfl) (by exact rfl) (by exact rfl) (by assumption) (by assumption) ?_ | fail
      all_goals refine ret1 [] rfl rfl rfl ⟨by rw [hi], rfl⟩
    · have ho : outC most x = false := by simp only [outC, Bool.or_eq_false_iff, decide_eq_false_iff_not]; omega
      rw [ho] at h3
      repeat' first
        | refine k_then ?_ | refine c_seq ?_ | refine c_region ?_ | refine s_nil ?_ | refine s_move (by exact rfl) (by exact rfl) ?_ | refine s_assign (by exact rfl) (by exact rfl) ?_ | refine s_lss (by exact rfl) (by exact rfl) (by exact rfl) ?_ | refine s_add (by exact rfl) (by exact rfl) (by exact rfl) (by omega) ?_ | refine s_len (by exact rfl) (by exact rfl) (by assumption) ?_ | refine s_idx (by exact rfl) (by exact rfl) (by exact rfl) (by assumption) (by first | assumption | omega) ?_ | refine s_pick_f (by exact rfl) (by exact rfl) (by exact rfl) ?_ | refine s_ld_ro (by exact rfl) (by exact rfl) (by assumption) (by assumption) ?_ | refine c_block ?_ | refine c_skip ?_ | refine k_blk ?_ | (refine c_cond_p (by exact rfl) (fun h => ?_) (fun h => ?_) <;> try (exfalso; omega)) | (refine g_case (by exact rfl) (by exact rfl) (fun h => ?_) (fun h => ?_) <;> try (exfalso; omega)) | refine w_move (by exact rfl) (by exact rfl) (by exact rfl) (by exact rfl) ?_ | refine w_geq (by exact rfl) (by exact rfl) (by exact rfl) (by exact rfl) (by exact rfl) ?_ | refine w_idx (by exact rfl) (by exact rfl) (by exact rfl) (by exact rfl) (by exact rfl) (by assumption) (by first | assumption | omega) ?_ | refine w_ld_ro (by exact rfl) (by exact rfl) (by exact rfl) (by exact rfl) (by assumption) (by assumption) ?_ | fail
      refine c_round (k + 1) [0] (by exact rfl) (by exact ⟨rfl, rfl, rfl, rfl, trivial⟩) ⟨by omega, h3⟩ (by omega)
  · rw [List.take_of_length_le (by omega)] at hq
    rw [hq, if_neg (by simp)] at hi
    repeat' first
      | refine k_then ?_ | refine c_seq ?_ | refine c_region ?_ | refine s_nil ?_ | refine s_move (by exact rfl) (by exact rfl) ?_ | refine s_assign (by exact rfl) (by exact rfl) ?_ | refine s_lss (by exact rfl) (by exact rfl) (by exact rfl) ?_ | refine s_len (by exact rfl) (by exact rfl) (by assumption) ?_ | refine c_block ?_ | refine c_exit ?_ | refine k_then_exit ?_ | refine k_blk_eq ?_ | (refine c_cond_p (by exact rfl) (fun h => ?_) (fun h => ?_) <;> try (exfalso; omega)) | fail
    refine c_loop (fun k : Nat => k ≤ es.length ∧ (es.take k).any (sameE c) = false) (fun k => [(1, vi), (3, .pointer (some ⟨b3, 0, none⟩)), (8, .int .i64 (k : Int))]) (fun _ => [boxHP b3 24 [.int .i64 n, v]]) (fun k => es.length - k) 0 [0] ⟨by omega, by simp⟩ (by exact rfl) ⟨rfl, rfl, rfl, trivial⟩ ?_
    rintro j ⟨hj, hp⟩
    by_cases hlt2 : j < es.length
    · obtain ⟨e, he⟩ : ∃ e, es[j]? = some e := ⟨_, List.getElem?_eq_getElem hlt2⟩
      obtain ⟨hE0, hE1, hE2⟩ := esV_get he
      obtain ⟨q1, q2, q3, q4, -⟩ := hR.ok e (List.mem_of_getElem? he)
      obtain ⟨p, hp1⟩ : ∃ p : Nat, e.1 = (p : Int) := ⟨e.1.toNat, by omega⟩
      obtain ⟨q, hq1⟩ : ∃ q : Nat, e.2.1 = (q : Int) := ⟨e.2.1.toNat, by omega⟩
      have hcp : (iV c)[p * 1]? = some (.int .i64 (c.getD p 0)) := by rw [Nat.mul_one, iV, List.getElem?_map, List.getD_eq_getElem?_getD, List.getElem?_eq_getElem (by omega)]; rfl
      have hcq : (iV c)[q * 1]? = some (.int .i64 (c.getD q 0)) := by rw [Nat.mul_one, iV, List.getElem?_map, List.getD_eq_getElem?_getD, List.getElem?_eq_getElem (by omega)]; rfl
      have h3 := any_take he hp
      have hsm : sameE c e = decide (c.getD p 0 = c.getD q 0) := by rw [sameE, hp1, hq1]; rfl
      rw [hp1] at hE0
      rw [hq1] at hE1
      repeat' first
        | refine k_then ?_ | refine c_seq ?_ | refine c_region ?_ | refine s_nil ?_ | refine s_move (by exact rfl) (by exact rfl) ?_ | refine s_fa (by exact rfl) (by exact rfl) ?_ | refine s_ld_box (by exact rfl) (by exact rfl) (by exact .head _) (by exact rfl) ?_ | refine s_lss (by exact rfl) (by exact rfl) (by exact rfl) ?_ | refine s_len (by exact rfl) (by exact rfl) (by assumption) ?_ | refine c_block ?_ | refine c_skip ?_ | (refine c_cond_p (by exact rfl) (fun h => ?_) (fun h => ?_) <;> try (exfalso; omega)) | fail
      refine p_begin0 [(0, true), (1, true), (2, true), (3, true), (4, true), (5, true), (6, true), (7, true), (8, true), (9, true), (10, true), (11, true), (12, true), (13, true), (14, true), (15, true), (16, true), (17, true), (18, true)] (by kernel_rfl) ?_
      repeat' first
        | refine p_nil ?_
        | (refine p_at (by exact rfl) ?_
           first
            | refine t_move (by exact rfl) (by exact rfl) (by exact fun _ h => h) ?_ | refine t_fa (by exact rfl) (by exact rfl) (by exact fun _ h => h) ?_ | refine t_ld_box (by exact rfl) (by exact rfl) (by exact .head _) (by exact rfl) (by exact fun _ h => h) ?_ | refine t_eql (by exact rfl) (by exact rfl) (by exact rfl) (by exact fun _ h => h) ?_ | refine t_idx (by exact rfl) (by exact rfl) (by exact rfl) (by assumption) (by first | assumption | omega) (by exact fun _ h => h) ?_ | refine t_fap (by exact rfl) (by exact rfl) (by assumption) (by omega) (by exact fun _ h => h) ?_ | refine t_ld_ro (by exact rfl) (by exact rfl) (by assumption) (by assumption) (by exact fun _ h => h) ?_ | fail)
        | fail
      repeat' first
        | refine k_then ?_ | refine c_seq ?_ | refine c_region ?_ | refine s_nil ?_ | refine s_move (by exact rfl) (by exact rfl) ?_ | refine s_assign (by exact rfl) (by exact rfl) ?_ | refine s_add (by exact rfl) (by exact rfl) (by exact rfl) (by omega) ?_ | refine c_skip ?_ | refine c_ret ?_ | refine k_then_ret ?_ | refine k_blk ?_ | refine k_blk_ret ?_ | (refine c_cond_p (by exact rfl) (fun h => ?_) (fun h => ?_) <;> try (exfalso; omega)) | fail
      · have ho : es.any (sameE c) = true := any_at he (by rw [hsm]; exact decide_eq_true h)
        rw [ho, if_pos rfl] at hi
        refine ret1 [] rfl rfl rfl ⟨by rw [hi], rfl⟩
      · rw [hsm, decide_eq_false h] at h3
        refine c_round (j + 1) [0] (by exact rfl) (by exact ⟨rfl, rfl, rfl, trivial⟩) ⟨by omega, h3⟩ (by omega)
    · rw [List.take_of_length_le (by omega)] at hp
      rw [hp, if_neg (by simp)] at hi
      repeat' first
        | refine k_then ?_ | refine c_seq ?_ | refine c_region ?_ | refine s_nil ?_ | refine s_move (by exact rfl) (by exact rfl) ?_ | refine s_assign (by exact rfl) (by exact rfl) ?_ | refine s_fa (by exact rfl) (by exact rfl) ?_ | refine s_ld_box (by exact rfl) (by exact rfl) (by exact .head _) (by exact rfl) ?_ | refine s_lss (by exact rfl) (by exact rfl) (by exact rfl) ?_ | refine s_len (by exact rfl) (by exact rfl) (by assumption) ?_ | refine c_exit ?_ | refine c_ret ?_ | refine k_then_exit ?_ | refine k_blk_eq ?_ | (refine c_cond_p (by exact rfl) (fun h => ?_) (fun h => ?_) <;> try (exfalso; omega)) | fail
      refine ret1 [] rfl rfl rfl ⟨by rw [hi], rfl⟩
end Go.Proofs.YtpajjnkmaebhcabGreat
end
section
set_option linter.unusedVariables false
namespace Fil
def sumL (ls : List (List Int)) : Nat := (ls.map List.length).sum
theorem sumL_take {ls : List (List Int)} {k : Nat} {l : List Int} (h : ls[k]? = some l) : sumL (ls.take (k + 1)) = sumL (ls.take k) + l.length := by
  rw [List.take_add_one, h, sumL, List.map_append, List.sum_append]
  simp [sumL]
theorem sumL_le : ∀ {ls : List (List Int)} {l : List Int}, l ∈ ls → l.length ≤ sumL ls
  | x :: ls, l, h => by
    simp only [sumL, List.map_cons, List.sum_cons]
    rcases List.mem_cons.1 h with rfl | h
    · omega
    · have := sumL_le h
      simp only [sumL] at this
      omega
theorem sumL_mono (ls : List (List Int)) (k : Nat) : sumL (ls.take k) ≤ sumL ls := by
  conv => rhs; rw [← List.take_append_drop k ls, sumL, List.map_append, List.sum_append]
  exact Nat.le_add_right _ _
def light7 (n : Int) (m : Nat) (ls : List (List Int)) (k : Int) : Bool := (decide (n ≤ k) && decide ((m : Int) ≤ 4 * k)) && decide ((ls.length : Int) ≤ 2 * k) && decide ((sumL ls : Int) ≤ 1000)
theorem light7_t {n : Int} {m : Nat} {ls : List (List Int)} {k : Int} (h : light7 n m ls k = true) : n ≤ k ∧ (m : Int) ≤ 4 * k ∧ (ls.length : Int) ≤ 2 * k ∧ ∀ l ∈ ls, l.length ≤ 1000 := by
  simp only [light7, Bool.and_eq_true, decide_eq_true_eq] at h
  obtain ⟨⟨⟨h1, h2⟩, h3⟩, h4⟩ := h
  exact ⟨h1, h2, h3, fun l hl => by have := sumL_le hl; omega⟩
end Fil
namespace Go.Proofs.YtpajjnkmaebhcabGreat
open Go.RowKit Go.Sl Fil
set_option maxRecDepth 100000
set_option maxHeartbeats 8000000
set_option linter.unusedVariables false
set_option linter.unusedSimpArgs false
attribute [local irreducible] Code.wp wpList bodyPost wpQuiet Exit.then Exit.inBlock Post wpAnyH wpOp
theorem Light7_ok (n : Int) (v : Value) (m : Nat) (vr : Value) (hr0 : List Value) (ls : List (List Int)) (k : Int) (w : World) (hs : Shp v m) (hR : ROsI w No vr hr0 ls) (hlen : ∀ l ∈ ls, l.length ≤ 17592186044416) (hk : 0 ≤ k ∧ k < 1000000) :
    Calls Tryz.prog 10 #[.agg #[.int .i64 n, v], vr, .int .i64 k] w (Post w No (Just (.bool (light7 n m ls k)))) := by
  have hsr := hR.shp
  have hrr := hR.ro
  have hls := hsr.1
  simp only [maxLen] at hls
  refine enter0 (vs := [_, _, _]) Tryz.func10 rfl Tryz.ntmps10 rfl ?_
  repeat' first
    | refine k_then ?_ | refine c_seq ?_ | refine c_region ?_ | refine s_nil ?_ | refine s_assign (by exact rfl) (by exact rfl) ?_ | refine o_box (by exact rfl) (by exact rfl) (fun b => ?_) | refine c_block ?_
  refine c_loop (fun i : Nat => i ≤ ls.length) (fun i => [(1, vr), (2, .int .i64 k), (3, .pointer (some ⟨b, 0, none⟩)), (6, .bool false), (7, .int .i64 (sumL (ls.take i) : Int)), (8, .int .i64 (i : Int))]) (fun _ => [boxHP b 24 (Value.agg #[.int .i64 n, v]).cells.toList]) (fun i => ls.length - i) 0 [0] (Nat.zero_le _) rfl ⟨rfl, rfl, rfl, rfl, rfl, rfl, trivial⟩ ?_
  rintro i hi
  by_cases hlt : i < ls.length
  · obtain ⟨hx, hhx⟩ : ∃ x, hr0[i]? = some x := ⟨_, List.getElem?_eq_getElem (by have := hR.len; omega)⟩
    obtain ⟨l, hl⟩ : ∃ l, ls[i]? = some l := ⟨_, List.getElem?_eq_getElem hlt⟩
    obtain ⟨hsx, hrx⟩ := hR.kid i hx l hhx hl
    have h1' : hr0[i * 1]? = some hx := by rw [Nat.mul_one]; exact hhx
    have hm := hlen l (List.mem_of_getElem? hl)
    have hst := sumL_take hl
    by_cases h10 : sumL (ls.take i) ≤ 1000
    · repeat' first
        | refine k_then ?_ | refine c_seq ?_ | refine c_region ?_ | refine s_nil ?_ | refine s_move (by exact rfl) (by exact rfl) ?_ | refine s_assign (by exact rfl) (by exact rfl) ?_ | refine s_lss (by exact rfl) (by exact rfl) (by exact rfl) ?_ | refine s_add (by exact rfl) (by exact rfl) (by exact rfl) (by omega) ?_ | refine s_len (by exact rfl) (by exact rfl) (by assumption) ?_ | refine s_idx (by exact rfl) (by exact rfl) (by exact rfl) (by assumption) (by first | assumption | omega) ?_ | refine s_pick_t (by exact rfl) (by exact rfl) (by exact rfl) ?_ | refine s_ld_ro (by exact rfl) (by exact rfl) (by assumption) (by assumption) ?_ | refine c_block ?_ | refine c_skip ?_ | refine k_blk ?_ | (refine c_cond_p (by exact rfl) (fun h => ?_) (fun h => ?_) <;> try (exfalso; omega)) | (refine g_case (by exact rfl) (by exact rfl) (fun h => ?_) (fun h => ?_) <;> try (exfalso; omega)) | refine w_move (by exact rfl) (by exact rfl) (by exact rfl) (by exact rfl) ?_ | refine w_leq (by exact rfl) (by exact rfl) (by exact rfl) (by exact rfl) (by exact rfl) ?_
      refine c_round (i + 1) [0] (by exact rfl) ?_ (by omega) (by omega)
      rw [hst, Int.natCast_add]
      exact ⟨rfl, rfl, rfl, rfl, rfl, rfl, trivial⟩
    · have hmo := sumL_mono ls i
      repeat' first
        | refine k_then ?_ | refine c_seq ?_ | refine c_region ?_ | refine s_nil ?_ | refine s_move (by exact rfl) (by exact rfl) ?_ | refine s_lss (by exact rfl) (by exact rfl) (by exact rfl) ?_ | refine s_len (by exact rfl) (by exact rfl) (by assumption) ?_ | refine s_pick_t (by exact rfl) (by exact rfl) (by exact rfl) ?_ | refine s_ldk_box (by exact rfl) (by exact rfl) (by exact .head _) (by exact rfl) (by exact rfl) ?_ | refine c_exit ?_ | refine k_then_exit ?_ | refine k_blk_eq ?_ | (refine c_cond_p (by exact rfl) (fun h => ?_) (fun h => ?_) <;> try (exfalso; omega)) | (refine g_case (by exact rfl) (by exact rfl) (fun h => ?_) (fun h => ?_) <;> try (exfalso; omega)) | refine w_move (by exact rfl) (by exact rfl) (by exact rfl) (by exact rfl) ?_ | refine w_leq (by exact rfl) (by exact rfl) (by exact rfl) (by exact rfl) (by exact rfl) ?_
      refine s_call (by exact rfl) (by exact rfl) (fun w h => Light_ok n v m k w hs hk) ?_
      unfold light7
      rw [show decide ((sumL ls : Int) ≤ 1000) = false from decide_eq_false (by omega), Bool.and_false]
      cases hb : (decide (n ≤ k) && decide ((m : Int) ≤ 4 * k))
      · repeat' first
          | refine k_then ?_ | refine s_nil ?_ | refine s_move (by exact rfl) (by exact rfl) ?_ | refine s_assign (by exact rfl) (by exact rfl) ?_ | refine s_pick_f (by exact rfl) (by exact rfl) (by exact rfl) ?_ | refine c_ret ?_ | refine g_skip (by exact rfl) (by exact rfl) (by exact rfl) (by exact rfl) ?_
        refine ret1 [] rfl rfl rfl ⟨rfl, rfl⟩
      · repeat' first
          | refine k_then ?_ | refine s_nil ?_ | refine s_move (by exact rfl) (by exact rfl) ?_ | refine s_assign (by exact rfl) (by exact rfl) ?_ | refine s_pick_t (by exact rfl) (by exact rfl) (by exact rfl) ?_ | refine s_pick_f (by exact rfl) (by exact rfl) (by exact rfl) ?_ | refine c_ret ?_ | (refine g_case (by exact rfl) (by exact rfl) (fun h => ?_) (fun h => ?_) <;> try (exfalso; omega)) | refine g_skip (by exact rfl) (by exact rfl) (by exact rfl) (by exact rfl) ?_ | refine w_move (by exact rfl) (by exact rfl) (by exact rfl) (by exact rfl) ?_ | refine w_leq (by exact rfl) (by exact rfl) (by exact rfl) (by exact rfl) (by exact rfl) ?_ | refine w_mul (by exact rfl) (by exact rfl) (by exact rfl) (by exact rfl) (by exact rfl) (by omega) ?_ | refine w_len (by exact rfl) (by exact rfl) (by exact rfl) (by exact rfl) (by assumption) ?_
        all_goals refine ret1 [] rfl rfl rfl ⟨congrArg Value.bool ?_, rfl⟩
        all_goals simp only [decide_eq_false_iff_not]
        all_goals omega
  · repeat' first
      | refine k_then ?_ | refine c_seq ?_ | refine c_region ?_ | refine s_nil ?_ | refine s_move (by exact rfl) (by exact rfl) ?_ | refine s_lss (by exact rfl) (by exact rfl) (by exact rfl) ?_ | refine s_len (by exact rfl) (by exact rfl) (by assumption) ?_ | refine s_pick_f (by exact rfl) (by exact rfl) (by exact rfl) ?_ | refine s_ldk_box (by exact rfl) (by exact rfl) (by exact .head _) (by exact rfl) (by exact rfl) ?_ | refine c_exit ?_ | refine k_then_exit ?_ | refine k_blk_eq ?_ | refine c_cond_f (by exact rfl) ?_ | (refine g_case (by exact rfl) (by exact rfl) (fun h => ?_) (fun h => ?_) <;> try (exfalso; omega)) | refine g_skip (by exact rfl) (by exact rfl) (by exact rfl) (by exact rfl) ?_
    obtain rfl : i = ls.length := by omega
    rw [List.take_length]
    refine s_call (by exact rfl) (by exact rfl) (fun w h => Light_ok n v m k w hs hk) ?_
    unfold light7
    cases hb : (decide (n ≤ k) && decide ((m : Int) ≤ 4 * k))
    · repeat' first
        | refine k_then ?_ | refine s_nil ?_ | refine s_move (by exact rfl) (by exact rfl) ?_ | refine s_assign (by exact rfl) (by exact rfl) ?_ | refine s_pick_f (by exact rfl) (by exact rfl) (by exact rfl) ?_ | refine c_ret ?_ | refine g_skip (by exact rfl) (by exact rfl) (by exact rfl) (by exact rfl) ?_
      all_goals refine ret1 [] rfl rfl rfl ⟨rfl, rfl⟩
    · repeat' first
        | refine k_then ?_ | refine s_nil ?_ | refine s_move (by exact rfl) (by exact rfl) ?_ | refine s_assign (by exact rfl) (by exact rfl) ?_ | refine s_pick_t (by exact rfl) (by exact rfl) (by exact rfl) ?_ | refine s_pick_f (by exact rfl) (by exact rfl) (by exact rfl) ?_ | refine c_ret ?_ | (refine g_case (by exact rfl) (by exact rfl) (fun h => ?_) (fun h => ?_) <;> try (exfalso; omega)) | refine g_skip (by exact rfl) (by exact rfl) (by exact rfl) (by exact rfl) ?_ | refine w_move (by exact rfl) (by exact rfl) (by exact rfl) (by exact rfl) ?_ | refine w_leq (by exact rfl) (by exact rfl) (by exact rfl) (by exact rfl) (by exact rfl) ?_ | refine w_mul (by exact rfl) (by exact rfl) (by exact rfl) (by exact rfl) (by exact rfl) (by omega) ?_ | refine w_len (by exact rfl) (by exact rfl) (by exact rfl) (by exact rfl) (by assumption) ?_
      · refine ret1 [] rfl rfl rfl ⟨congrArg Value.bool ?_, rfl⟩
        rw [decide_eq_true h, Bool.and_true, Bool.true_and]
      · refine ret1 [] rfl rfl rfl ⟨congrArg Value.bool ?_, rfl⟩
        rw [decide_eq_false h, Bool.and_false, Bool.false_and]
end Go.Proofs.YtpajjnkmaebhcabGreat
end
section
set_option linter.unusedVariables false
namespace Go.Proofs.YtpajjnkmaebhcabGreat
open Go Go.RowKit Go.Sl Fil
theorem calls_ex {P : Program} {f : FuncId} {args : Array Value} {w : World} {R : Ending → World → Prop} (h : Calls P f args w R) : ∃ e w', R e w' := by
  obtain ⟨e, w', _, hR, _⟩ := h []
  exact ⟨e, w', hR⟩
theorem lev_ex (w : World) {n : Int} {es : List E} (hR : RightG n es) : ∃ o lab, Lev n.toNat (nb (tn es)) o lab := by
  have hm := hR.many
  let W : World := { w with heap := #[.cells (esV es).toArray 37 (0, 0)] }
  have hs : Shp (.slice (some ⟨0, 0, none⟩) es.length es.length) es.length := ⟨by simp only [maxLen]; omega, .inr (.inl ⟨0, 0, es.length, rfl, Nat.le_refl _, by simp only [maxLen]; omega⟩)⟩
  have hr : RO W No (.slice (some ⟨0, 0, none⟩) es.length es.length) (esV es) := RO.of_rd fun j u hj => ⟨0, 0, es.length, es.length, rfl, by simp [World.cell?, W, hj]⟩
  obtain ⟨e, w', h⟩ := calls_ex (Components_ok n _ es W hs hr hR)
  obtain ⟨v, L, hG, _⟩ := h
  obtain ⟨met, out, lab, _, hB, _⟩ := hG
  exact ⟨_, _, hB.lev⟩
def es3 : List E := [(0, 1, 0), (0, 2, 0), (1, 2, 0)]
def R3 : List (List Nat) := [[1, 2], [2, 0], [0, 1]]
theorem right3 : RightG 3 es3 := right_iff.1 (by decide)
theorem rot3 : RotL (3 : Int).toNat (tn es3) R3 where
  len := rfl
  perm v hv := by
    match v, hv with
    | 0, _ => decide
    | 1, _ => decide
    | 2, _ => decide
theorem darts3 : dartsAll (3 : Int).toNat (tn es3) = [(0, 1), (0, 2), (1, 0), (1, 2), (2, 0), (2, 1)] := by
  have h : nearS (tn es3) = fun u => (List.range (3 : Int).toNat).filter (fun v => decide (v ∈ rf R3 u)) := funext fun u => (near_filter right3 rot3 u).symm
  rw [dartsAll, h]
  decide
theorem faces3 : facesR (3 : Int).toNat (tn es3) R3 = [[(0, 1), (1, 2), (2, 0)], [(0, 2), (2, 1), (1, 0)]] := by
  rw [facesR, darts3]
  decide
theorem lab3 {o lab : Nat → Nat} (hL : Lev (3 : Int).toNat (nb (tn es3)) o lab) : compsS (3 : Int).toNat lab = [[0, 1, 2]] := by
  have hG : Fil.Good (3 : Int).toNat (tn es3) := right3.good
  have hlab : (List.range 3).map lab = [0, 0, 0] := by
    have h := ref_labels hG hL
    have h2 : rounds relaxL (tn es3) (3 : Int).toNat (List.range (3 : Int).toNat) = [0, 0, 0] := by decide
    rw [h2] at h
    exact h.symm
  have h : lab 0 = 0 ∧ lab 1 = 0 ∧ lab 2 = 0 := by simpa [List.range_succ] using hlab
  have e : ∀ v, v < 3 → lab v = (fun _ => 0) v := fun v hv => by
    match v, hv with
    | 0, _ => exact h.1
    | 1, _ => exact h.2.1
    | 2, _ => exact h.2.2
  exact (compsS_congr (N := 3) e).trans (by decide)
theorem euler3 {o lab : Nat → Nat} (hL : Lev (3 : Int).toNat (nb (tn es3)) o lab) : eulerL (3 : Int).toNat (tn es3) lab (facesR (3 : Int).toNat (tn es3) R3) = [2] := by
  rw [eulerL, lab3 hL, faces3]
  decide
set_option maxRecDepth 100000
set_option maxHeartbeats 8000000
set_option linter.unusedVariables false
set_option linter.unusedSimpArgs false
attribute [local irreducible] Code.wp wpList bodyPost wpQuiet Exit.then Exit.inBlock Post wpAnyH wpOp
end Go.Proofs.YtpajjnkmaebhcabGreat
end
section
set_option linter.unusedVariables false
set_option linter.unusedSimpArgs false
namespace Go.Sl
open Go Go.RowKit
section
variable {P : Program} {w0 : World} {S0 : FS} {n : Nat} {F : List (Nat × Value)} {L Lk : List HP} {ops : Array Oper} {Q : Exit → Act → World → Prop}
/-- the end of the first phase: what the second one asks -/
def cutK (P : Program) (ops : Array Oper) (Q : Exit → Act → World → Prop) (plan : List PI) : Exit → Act → World → Prop
  | .normal, a, w => ∃ S : World → Prop, S w ∧ PW P ops Q S plan a w
  | e, a, w => Q e a w
instance {plan : List PI} [T : PO Q] : PO (cutK P ops Q plan) := ⟨fun c a d v w h => T.ok c a d v w h⟩
end
end Go.Sl
end
section
set_option linter.unusedVariables false
namespace Fil
end Fil
namespace Go.Proofs.YtpajjnkmaebhcabGreat
open Go Go.RowKit Go.Sl Fil
set_option maxRecDepth 100000
set_option maxHeartbeats 8000000
set_option linter.unusedVariables false
set_option linter.unusedSimpArgs false
attribute [local irreducible] Code.wp wpList bodyPost wpQuiet Exit.then Exit.inBlock Post wpAnyH wpOp
end Go.Proofs.YtpajjnkmaebhcabGreat
end
section
set_option linter.unusedVariables false
namespace Go.Proofs.YtpajjnkmaebhcabGreat
open Go Go.RowKit Go.Sl Fil
theorem planeIs_ok {n : Int} {v : Value} {es : List E} {vr : Value} {hr0 : List Value} {R : List (List Nat)} {o lab : Nat → Nat} {w : World} (hs : Shp v es.length) (hr : RO w No v (esV es)) (hG : RightG n es) (hR : ROs w No vr hr0 R) (hRot : RotL n.toNat (tn es) R) (hL : Lev n.toNat (nb (tn es)) o lab) : PlaneIs n v vr (planeR n.toNat (tn es) lab R) w := fun w' S' hm =>
  rotPlane_ok n v es vr hr0 R o lab w' hs (hr.fwd hm (fun _ h => h.elim)) hG ⟨hR.shp, hR.len, hR.ro.fwd hm (fun _ h => h.elim), fun i x l h1 h2 => ⟨(hR.kid i x l h1 h2).1, (hR.kid i x l h1 h2).2.fwd hm (fun _ h => h.elim)⟩⟩ hRot hL
theorem planeIs_no {n : Int} {v : Value} {es : List E} {vr : Value} {hr0 : List Value} {ls : List (List Int)} {w : World} (hs : Shp v es.length) (hr : RO w No v (esV es)) (hm : es.length < 4611686018427387904) (hR : ROsI w No vr hr0 ls) (hlen : ∀ l ∈ ls, l.length ≤ 1048576) (hk : rotK n es ls ≠ 0) : PlaneIs n v vr (rotK n es ls) w := fun w' S' hmd =>
  rotPlane_no n v es vr hr0 ls w' hs (hr.fwd hmd (fun _ h => h.elim)) hm ⟨hR.shp, hR.len, hR.ro.fwd hmd (fun _ h => h.elim), fun i x l h1 h2 => ⟨(hR.kid i x l h1 h2).1, (hR.kid i x l h1 h2).2.fwd hmd (fun _ h => h.elim)⟩⟩ hlen hk
set_option maxRecDepth 100000
set_option maxHeartbeats 8000000
set_option linter.unusedVariables false
set_option linter.unusedSimpArgs false
attribute [local irreducible] Code.wp wpList bodyPost wpQuiet Exit.then Exit.inBlock Post wpAnyH wpOp
end Go.Proofs.YtpajjnkmaebhcabGreat
end
section
set_option linter.unusedVariables false
namespace Fil
open Go.Sl
theorem col_right {n : Int} {es : List E} {R : List (List Nat)} {c : List Nat} (hG : RightG n es) (hRot : RotL n.toNat (tn es) R) (hcl : c.length = n.toNat) (h5 : ∀ u, u < n.toNat → c.getD u 0 < 5) (hne : ∀ u, u < n.toNat → ∀ x ∈ rf R u, c.getD u 0 ≠ c.getD x 0) : colK n es (c.map fun k : Nat => (k : Int)) 5 = 0 := by
  have hlo := hG.lo
  have hgd : ∀ u, (c.map fun k : Nat => (k : Int)).getD u 0 = ((c.getD u 0 : Nat) : Int) := fun u => by
    rw [List.getD_eq_getElem?_getD, List.getD_eq_getElem?_getD, List.getElem?_map]
    cases c[u]? <;> rfl
  rw [colK, if_pos (right_iff.2 hG), if_neg (by rw [List.length_map]; omega), if_neg, if_neg]
  · intro h
    obtain ⟨e, he, hs⟩ := List.any_eq_true.1 h
    obtain ⟨q1, q2, q3, q4, -⟩ := hG.ok e he
    have hs := of_decide_eq_true hs
    rw [hgd, hgd] at hs
    have hm : (e.1.toNat, e.2.1.toNat) ∈ tn es := List.mem_map.2 ⟨e, he, rfl⟩
    have h1 : e.2.1.toNat ∈ rf R e.1.toNat := ((hRot.sys hG).ed _ _).2 (.inl hm)
    exact hne e.1.toNat (by omega) _ h1 (by omega)
  · intro h
    obtain ⟨x, hx, hs⟩ := List.any_eq_true.1 h
    obtain ⟨k, hk, rfl⟩ := List.mem_map.1 hx
    obtain ⟨i, hi, rfl⟩ := List.getElem_of_mem hk
    have := h5 i (by omega)
    rw [List.getD_eq_getElem?_getD, List.getElem?_eq_getElem hi, Option.getD_some] at this
    simp only [outC, Bool.or_eq_true, decide_eq_true_eq] at hs
    omega
end Fil
end
section
set_option linter.unusedVariables false
namespace Go.Proofs.YtpajjnkmaebhcabGreat
open Go Go.RowKit Go.Sl Fil
theorem near3 : nearS (tn es3) = fun u => (List.range (3 : Int).toNat).filter (fun v => decide (v ∈ rf R3 u)) := funext fun u => (near_filter right3 rot3 u).symm
theorem greedy3 : greedyR 3 es3 [0, 1, 2] = some [0, 1, 2] := by
  rw [greedyR, if_pos ⟨by decide, by decide⟩, near3]; decide
theorem bad3 : colK 3 es3 [0, 0, 1] 5 = 13 := by decide
set_option maxRecDepth 100000
set_option maxHeartbeats 8000000
set_option linter.unusedVariables false
set_option linter.unusedSimpArgs false
attribute [local irreducible] Code.wp wpList bodyPost wpQuiet Exit.then Exit.inBlock Post wpAnyH wpOp
theorem alive11_ok (w : World) : Calls Tryz.prog 11 #[] w (Post w No (Just (.bool true))) := by
  obtain ⟨o, lab, hL⟩ := lev_ex w right3
  refine enter0 (vs := []) Tryz.func11 rfl Tryz.ntmps11 rfl ?_
  repeat' first
    | refine k_then ?_ | refine c_seq ?_ | refine c_region ?_ | refine s_nil ?_ | refine s_assign (by exact rfl) (by exact rfl) ?_ | fail
  refine o_build [(0, .int .i64 0, [.int .i64 0]), (1, .int .i64 1, [.int .i64 1])] (by exact rfl) (by exact rfl) (by simp [Value.cells]) (by exact rfl) ?_
  refine o_build [(0, .int .i64 0, [.int .i64 0]), (1, .int .i64 2, [.int .i64 2])] (by exact rfl) (by exact rfl) (by simp [Value.cells]) (by exact rfl) ?_
  refine o_build [(0, .int .i64 1, [.int .i64 1]), (1, .int .i64 2, [.int .i64 2])] (by exact rfl) (by exact rfl) (by simp [Value.cells]) (by exact rfl) ?_
  refine o_mk [.agg (eV (0, 1, 0)).toArray, .agg (eV (0, 2, 0)).toArray, .agg (eV (1, 2, 0)).toArray] (by exact rfl) (by exact rfl) rfl ?_ ?_ (by simp) fun v hv => ?_
  · simp [Value.cells, eV]
  · simp
  rw [show ([Value.agg (eV (0, 1, 0)).toArray, .agg (eV (0, 2, 0)).toArray, .agg (eV (1, 2, 0)).toArray].flatMap fun u => u.cells.toList) = esV es3 from rfl]
  refine o_build [(0, .int .i64 3, [.int .i64 3]), (1, v, [v])] (by exact rfl) (by exact rfl) (by
    intro q hq
    simp only [List.mem_cons, List.not_mem_nil, or_false] at hq
    rcases hq with rfl | rfl
    · rfl
    · exact one_cells hv.one) (by exact rfl) ?_
  repeat' first
    | refine o_alloc (by exact rfl) (fun b => ?_) | fail
  refine o_stk_box (i := 0) (us := [.int .i64 3, v]) (by exact rfl) (by exact rfl) (by exact rfl) (by exact rfl) (by exact rfl) (by
    intro u hu
    simp only [List.mem_cons, List.not_mem_nil, or_false] at hu
    rcases hu with rfl | rfl
    · rfl
    · exact hv.one) (by simp [Value.cells]) ?_
  repeat' first
    | refine k_then ?_ | refine c_seq ?_ | refine c_region ?_ | refine s_nil ?_ | refine s_ldk_box (by exact rfl) (by exact rfl) (by exact .head _) (by exact rfl) (by exact rfl) ?_ | fail
  refine o_mk [.int .i64 0, .int .i64 1, .int .i64 2] (by exact rfl) (by exact rfl) rfl ?_ ?_ (by simp) fun vq hvq => ?_
  · simp [Value.cells]
  · simp
  rw [show ([Value.int .i64 0, .int .i64 1, .int .i64 2].flatMap fun u => u.cells.toList) = iV [0, 1, 2] from rfl]
  have hvq3 : Shp vq ([0, 1, 2] : List Int).length := hvq
  refine o_call (by exact rfl) (by exact rfl) (fun w h => ColGreedy_ok 3 v vq es3 [0, 1, 2] w hv (ro_own h (by exact .tail _ (.tail _ (.head _)))) (by decide) hvq3 (ro_own h (.head _)) (by omega)) ?_
  rintro _ _ hh
  rw [greedy3] at hh
  obtain ⟨vc, rfl, -, rfl⟩ := hh
  refine know_row (v := vc) (.head _) fun hvc _ => ?_
  repeat' first
    | refine k_then ?_ | refine c_seq ?_ | refine c_region ?_ | refine s_nil ?_ | refine s_move (by exact rfl) (by exact rfl) ?_ | refine s_assign (by exact rfl) (by exact rfl) ?_ | refine s_extract (by exact rfl) (by exact rfl) (by exact rfl) ?_ | refine s_ldk_box (by exact rfl) (by exact rfl) (by exact .tail _ (.tail _ (.head _))) (by exact rfl) (by exact rfl) ?_ | fail
  refine o_mk [.int .i64 1, .int .i64 2] (by exact rfl) (by exact rfl) rfl ?_ ?_ (by simp) fun v0 hv0 => ?_
  · simp [Value.cells]
  · simp
  refine o_mk [.int .i64 2, .int .i64 0] (by exact rfl) (by exact rfl) rfl ?_ ?_ (by simp) fun v1 hv1 => ?_
  · simp [Value.cells]
  · simp
  refine o_mk [.int .i64 0, .int .i64 1] (by exact rfl) (by exact rfl) rfl ?_ ?_ (by simp) fun v2 hv2 => ?_
  · simp [Value.cells]
  · simp
  refine o_mk [v0, v1, v2] (by exact rfl) (by exact rfl) rfl ?_ ?_ (by simp) fun vr hvr => ?_
  · intro u hu
    simp only [List.mem_cons, List.not_mem_nil, or_false] at hu
    rcases hu with rfl | rfl | rfl
    · rw [← Array.length_toList, one_cells hv0.one]; rfl
    · rw [← Array.length_toList, one_cells hv1.one]; rfl
    · rw [← Array.length_toList, one_cells hv2.one]; rfl
  · simp
  rw [show ([v0, v1, v2].flatMap fun u => u.cells.toList) = [v0, v1, v2] from by simp [one_cells hv0.one, one_cells hv1.one, one_cells hv2.one]]
  skip
  refine c_star0 ?_
  refine c_pick [4, 0, 0, 0, 0, 0, 0, 0, 0] (by exact rfl) ?_
  refine c_pushk 0 (by exact rfl) ?_
  refine c_pick [3, 0, 0, 0, 0, 0, 0, 0] (by exact rfl) ?_
  refine c_pushk 0 (by exact rfl) ?_
  refine c_pick [2, 0, 0, 0, 0, 0, 0] (by exact rfl) ?_
  refine c_pushk 0 (by exact rfl) ?_
  have hros : ∀ {L : List HP} {w1 : World}, rowHP vr 28 1 3 [v0, v1, v2] ∈ L → starHP (kids rowN [v0, v1, v2] R3) ∈ L → St w No L w1 → ROs w1 No vr [v0, v1, v2] R3 := fun h1 h2 h => ros_own h h1 rfl h2
  have hpl : planeR (3 : Int).toNat (tn es3) lab R3 = 0 := by rw [planeR, euler3 hL]; decide
  refine o_call (by exact rfl) (by exact rfl) (fun w h => Five_ok 3 v es3 vr [v0, v1, v2] R3 o lab w hv (ro_own h (by exact .tail _ (.tail _ (.tail _ (.tail _ (.tail _ (.head _))))))) right3 (hros (by exact .tail _ (.head _)) (by exact .head _) h) rot3 hL (hpl ▸ planeIs_ok hv (ro_own h (by exact .tail _ (.tail _ (.tail _ (.tail _ (.tail _ (.head _))))))) right3 (hros (by exact .tail _ (.head _)) (by exact .head _) h) rot3 hL) hpl (by omega)) ?_
  rintro _ _ ⟨vd, cd, rfl, hcl, hc5, hcne, rfl⟩
  have hck := col_right right3 rot3 hcl hc5 hcne
  refine know_row (v := vd) (.head _) fun hvd _ => ?_
  repeat' first
    | refine k_then ?_ | refine c_seq ?_ | refine c_region ?_ | refine s_nil ?_ | refine s_move (by exact rfl) (by exact rfl) ?_ | refine s_assign (by exact rfl) (by exact rfl) ?_ | refine s_eql (by exact rfl) (by exact rfl) (by exact rfl) ?_ | refine s_extract (by exact rfl) (by exact rfl) (by exact rfl) ?_ | (refine g_case (by exact rfl) (by exact rfl) (fun h => ?_) (fun h => ?_) <;> try (exfalso; omega)) | refine w_move (by exact rfl) (by exact rfl) (by exact rfl) (by exact rfl) ?_ | refine g_on (by exact rfl) (by exact rfl) ?_ | fail
  refine o_mk [.int .i64 0, .int .i64 1, .int .i64 2] (by exact rfl) (by exact rfl) rfl ?_ ?_ (by simp) fun vp hvp => ?_
  · simp [Value.cells]
  · simp
  rw [show ([Value.int .i64 0, .int .i64 1, .int .i64 2].flatMap fun u => u.cells.toList) = iV [0, 1, 2] from rfl]
  have hvp3 : Shp vp ([0, 1, 2] : List Int).length := hvp
  have hvc3 : Shp vc ([0, 1, 2] : List Int).length := hvc
  repeat' first
    | refine g_on (by exact rfl) (by exact rfl) ?_ | fail
  refine s_call (by exact rfl) (by exact rfl) (fun w h => Ints_ok vc vp [0, 1, 2] [0, 1, 2] w hvc3 hvp3 (ro_own h (by exact .tail _ (.tail _ (.tail _ (.tail _ (.head _)))))) (ro_own h (by exact .head _))) ?_
  rw [decide_eq_true (rfl : ([0, 1, 2] : List Int) = [0, 1, 2])]
  repeat' first
    | refine s_move (by exact rfl) (by exact rfl) ?_ | refine s_pick_t (by exact rfl) (by exact rfl) (by exact rfl) ?_ | (refine g_case (by exact rfl) (by exact rfl) (fun h => ?_) (fun h => ?_) <;> try (exfalso; omega)) | refine w_move (by exact rfl) (by exact rfl) (by exact rfl) (by exact rfl) ?_ | refine w_eql (by exact rfl) (by exact rfl) (by exact rfl) (by exact rfl) (by exact rfl) ?_ | refine w_ldk_box (by exact rfl) (by exact rfl) (by exact rfl) (by exact rfl) (by exact .tail _ (.tail _ (.tail _ (.tail _ (.tail _ (.tail _ (.head _))))))) (by exact rfl) (by exact rfl) ?_ | refine g_on (by exact rfl) (by exact rfl) ?_ | fail
  refine s_call (by exact rfl) (by exact rfl) (fun w h => ColCheck_ok 3 v vd es3 (cd.map fun k : Nat => (k : Int)) 5 w hv (ro_own h (by exact .tail _ (.tail _ (.tail _ (.tail _ (.tail _ (.tail _ (.tail _ (.head _))))))))) (by decide) (by rw [List.length_map, hcl]; exact hvd) (by rw [← nV_iV]; exact ro_own h (by exact .tail _ (.head _)))) ?_
  rw [hck]
  repeat' first
    | refine s_move (by exact rfl) (by exact rfl) ?_ | refine s_pick_t (by exact rfl) (by exact rfl) (by exact rfl) ?_ | (refine g_case (by exact rfl) (by exact rfl) (fun h => ?_) (fun h => ?_) <;> try (exfalso; omega)) | refine w_eql (by exact rfl) (by exact rfl) (by exact rfl) (by exact rfl) (by exact rfl) ?_ | refine w_ldk_box (by exact rfl) (by exact rfl) (by exact rfl) (by exact rfl) (by exact .tail _ (.tail _ (.tail _ (.tail _ (.tail _ (.tail _ (.head _))))))) (by exact rfl) (by exact rfl) ?_ | refine g_on (by exact rfl) (by exact rfl) ?_ | fail
  refine o_mk [.int .i64 0, .int .i64 0, .int .i64 1] (by exact rfl) (by exact rfl) rfl ?_ ?_ (by simp) fun vz hvz => ?_
  · simp [Value.cells]
  · simp
  rw [show ([Value.int .i64 0, .int .i64 0, .int .i64 1].flatMap fun u => u.cells.toList) = iV [0, 0, 1] from rfl]
  have hvz3 : Shp vz ([0, 0, 1] : List Int).length := hvz
  repeat' first
    | refine g_on (by exact rfl) (by exact rfl) ?_ | fail
  refine s_call (by exact rfl) (by exact rfl) (fun w h => ColCheck_ok 3 v vz es3 [0, 0, 1] 5 w hv (ro_own h (by exact .tail _ (.tail _ (.tail _ (.tail _ (.tail _ (.tail _ (.tail _ (.tail _ (.head _)))))))))) (by decide) hvz3 (ro_own h (by exact .head _))) ?_
  rw [bad3]
  repeat' first
    | refine k_then ?_ | refine s_nil ?_ | refine s_assign (by exact rfl) (by exact rfl) ?_ | refine s_pick_t (by exact rfl) (by exact rfl) (by exact rfl) ?_ | refine c_ret ?_ | refine w_eql (by exact rfl) (by exact rfl) (by exact rfl) (by exact rfl) (by exact rfl) ?_ | fail
  refine ret1 [] rfl rfl (by exact rfl) ⟨rfl, rfl⟩
end Go.Proofs.YtpajjnkmaebhcabGreat
end
section
set_option linter.unusedVariables false
namespace Fil
theorem Fs.len {G : Nat × Nat → Nat × Nat} {ds : List (Nat × Nat)} {out : List (List (Nat × Nat))} (h : Fs G ds out) : out.flatten.length ≤ ds.length ∧ out.length ≤ out.flatten.length :=
  ⟨sub_length h.nd h.sub, flat_le fun l hl => (h.cy l hl).1⟩
theorem Fs.all {G : Nat × Nat → Nat × Nat} {ds : List (Nat × Nat)} {n : Nat} (hi : ∀ a ∈ ds, ∀ b ∈ ds, G a = G b → a = b) (hm : ∀ a ∈ ds, G a ∈ ds) (hn : ds.length ≤ n) (l : List (Nat × Nat)) (hl : ∀ z ∈ l, z ∈ ds) : Fs G ds (l.foldl (facesStep G n) []) :=
  (Fs.fold hi hm hn l [] ⟨by simp, by simp, by simp⟩ hl).1
end Fil
namespace Go.Proofs.YtpajjnkmaebhcabGreat
open Go Go.RowKit Go.Sl Fil
set_option maxRecDepth 100000
set_option maxHeartbeats 8000000
set_option linter.unusedVariables false
set_option linter.unusedSimpArgs false
attribute [local irreducible] Code.wp wpList bodyPost wpQuiet Exit.then Exit.inBlock Post wpAnyH wpOp
theorem in_ok (v : Value) (l : List (Nat × Nat)) (d : Nat × Nat) (w : World) (hs : Shp v l.length) (hr : RO w No v (dsV l)) :
    Calls Tryz.prog 91 #[v, .agg #[.int .i64 (d.1 : Int), .int .i64 (d.2 : Int)]] w (Post w No (Just (.bool (decide (d ∈ l))))) := by
  have hm := hs.1
  simp only [maxLen] at hm
  refine enter0 (vs := [_, _]) Tryz.func91 rfl Tryz.ntmps91 rfl ?_
  repeat' first
    | refine k_then ?_ | refine c_seq ?_ | refine c_region ?_ | refine s_nil ?_ | refine s_assign (by exact rfl) (by exact rfl) ?_ | refine o_box (by exact rfl) (by exact rfl) (fun b => ?_) | refine c_block ?_
  refine c_loop (fun k : Nat => k ≤ l.length ∧ ∀ z ∈ l.take k, z ≠ d) (fun k => [(0, v), (3, .pointer (some ⟨b, 0, none⟩)), (4, .bool false), (5, .int .i64 (k : Int))]) (fun _ => [boxHP b 100 (Value.agg #[.int .i64 (d.1 : Int), .int .i64 (d.2 : Int)]).cells.toList]) (fun k => l.length - k) 0 [0] ⟨Nat.zero_le _, by simp⟩ rfl ⟨rfl, rfl, rfl, rfl, trivial⟩ ?_
  rintro k ⟨hk, hq⟩
  by_cases hlt : k < l.length
  · obtain ⟨z, hz⟩ : ∃ z, l[k]? = some z := ⟨_, List.getElem?_eq_getElem hlt⟩
    have hE := dsV_at hz
    repeat' first
      | refine k_then ?_ | refine c_seq ?_ | refine c_region ?_ | refine s_nil ?_ | refine s_move (by exact rfl) (by exact rfl) ?_ | refine s_lss (by exact rfl) (by exact rfl) (by exact rfl) ?_ | refine s_len (by exact rfl) (by exact rfl) (by assumption) ?_ | refine c_block ?_ | refine c_skip ?_ | (refine c_cond_p (by exact rfl) (fun h => ?_) (fun h => ?_) <;> try (exfalso; omega))
    refine p_begin0 [(0, true), (1, true), (2, true), (3, true), (4, true), (5, true)] (by kernel_rfl) ?_
    repeat' first
      | (refine p_at (by exact rfl) ?_
         first
          | refine t_move (by exact rfl) (by exact rfl) (by exact fun _ h => h) ?_ | refine t_idx (by exact rfl) (by exact rfl) (by exact rfl) (by assumption) (by first | assumption | omega) (by exact fun _ h => h) ?_ | refine t_ldk_box (by exact rfl) (by exact rfl) (by exact .head _) (by exact rfl) (by exact rfl) (by exact fun _ h => h) ?_ | refine t_ldk_ro (by exact rfl) (by exact rfl) (by assumption) (by decide) (by assumption) (by exact rfl) (by exact fun _ h => h) ?_)
    refine p_at (by exact rfl) ?_
    refine t_eql2 (by exact rfl) (by exact rfl) (by exact rfl) (by exact fun _ h => h) ?_
    repeat' first
      | refine p_nil ?_
    repeat' first
      | refine k_then ?_ | refine c_seq ?_ | refine c_region ?_ | refine s_nil ?_ | refine s_move (by exact rfl) (by exact rfl) ?_ | refine s_assign (by exact rfl) (by exact rfl) ?_ | refine s_add (by exact rfl) (by exact rfl) (by exact rfl) (by omega) ?_ | refine c_skip ?_ | refine c_ret ?_ | refine k_then_ret ?_ | refine k_blk ?_ | refine k_blk_ret ?_ | (refine c_cond_p (by exact rfl) (fun h => ?_) (fun h => ?_) <;> try (exfalso; omega))
    · refine ret1 [] rfl rfl rfl ⟨congrArg Value.bool ?_, rfl⟩
      refine (decide_eq_true ?_).symm
      have e : z = d := Prod.ext (by omega) (by omega)
      exact e ▸ List.mem_of_getElem? hz
    · refine c_round (k + 1) [0] (by exact rfl) ⟨rfl, rfl, rfl, rfl, trivial⟩ ⟨by omega, fun y hy => ?_⟩ (by omega)
      rw [List.take_add_one, hz] at hy
      rcases List.mem_append.1 hy with hy | hy
      · exact hq y hy
      · obtain rfl : y = z := by simpa using hy
        intro e
        subst e
        exact h ⟨rfl, rfl⟩
  · repeat' first
      | refine k_then ?_ | refine c_seq ?_ | refine c_region ?_ | refine s_nil ?_ | refine s_move (by exact rfl) (by exact rfl) ?_ | refine s_assign (by exact rfl) (by exact rfl) ?_ | refine s_lss (by exact rfl) (by exact rfl) (by exact rfl) ?_ | refine s_len (by exact rfl) (by exact rfl) (by assumption) ?_ | refine c_exit ?_ | refine c_ret ?_ | refine k_then_exit ?_ | refine k_blk_eq ?_ | (refine c_cond_p (by exact rfl) (fun h => ?_) (fun h => ?_) <;> try (exfalso; omega))
    refine ret1 [] rfl rfl rfl ⟨congrArg Value.bool ?_, rfl⟩
    refine (decide_eq_false fun hd => ?_).symm
    rw [List.take_of_length_le (by omega)] at hq
    exact hq d hd rfl
theorem refFaces_ok (n : Int) (v : Value) (es : List E) (vr : Value) (hr0 : List Value) (R : List (List Nat)) (w : World) (hs : Shp v es.length) (hr : RO w No v (esV es)) (hG : RightG n es) (hR : ROs w No vr hr0 R) (hRot : RotL n.toNat (tn es) R) :
    Calls Tryz.prog 70 #[.agg #[.int .i64 n, v], vr] w (Post w No fun vo L' => ∃ ho : List Value, ho.length = (facesR n.toNat (tn es) R).length ∧ L' = [rowHP vo 101 1 (facesR n.toNat (tn es) R).length ho, starHP (kids rowD ho (facesR n.toNat (tn es) R))]) := by
  have hsr := hR.shp
  have hrr := hR.ro
  have hlo := hG.lo
  have hhi := hG.hi
  have hmany := hG.many
  have hRl := hRot.len
  refine enter0 (vs := [_, _]) Tryz.func70 rfl Tryz.ntmps70 rfl ?_
  repeat' first
    | refine k_then ?_ | refine c_seq ?_ | refine c_region ?_ | refine s_nil ?_ | refine s_assign (by exact rfl) (by exact rfl) ?_ | refine o_box (by exact rfl) (by exact rfl) (fun b => ?_) | refine c_block ?_
  revert b; intro bg
  have hi := all_inj hG hRot
  have hm := all_mem hG hRot
  have hdl := dartsAll_length hG
  have hin : ∀ d ∈ dartsAll n.toNat (tn es), d.1 < n.toNat ∧ d.2 < n.toNat := fun d hd => dart_lt hG hd
  have hdm : ∀ d : Nat × Nat, d ∈ dartsAll n.toNat (tn es) ↔ d.2 ∈ rf R d.1 := fun d => dart_in hG hRot
  have hnx : ∀ d ∈ dartsAll n.toNat (tn es), nextK (intL R) (d.1 : Int) (d.2 : Int) = (((nxt (rf R) d).1 : Int), ((nxt (rf R) d).2 : Int), true) := fun d hd =>
    nextK_nxt (by have := (hin d hd).2; omega) ((hRot.sys hG).sym ((hdm d).1 hd))
  have hnf : ∀ u, ((List.range n.toNat).filter fun v => decide (v ∈ rf R u)).map (fun x => (u, x)) = vc (nearS (tn es)) u := fun u => by rw [near_filter hG hRot, vc]
  have hfR : facesR n.toNat (tn es) R = (dartsOf (nearS (tn es)) (List.range n.toNat)).foldl (facesStep (nxt (rf R)) (2 * es.length + 1)) [] := by rw [facesR, facesL, tn_len, dartsAll]
  have hsub : ∀ u, u ≤ n.toNat → ∀ z ∈ dartsOf (nearS (tn es)) (List.range u), z ∈ dartsAll n.toNat (tn es) := fun u hu z hz => by
    obtain ⟨h1, h2⟩ := mem_darts.1 hz
    exact mem_darts.2 ⟨List.mem_range.2 (by have := List.mem_range.1 h1; omega), h2⟩
  rw [hfR]
  generalize dartsAll n.toNat (tn es) = ds at *
  generalize nxt (rf R) = G at *
  have hFa : ∀ l : List (Nat × Nat), (∀ z ∈ l, z ∈ ds) → Fs G ds (l.foldl (facesStep G (2 * es.length + 1)) []) := fun l hl => Fs.all hi hm (by omega) l hl
  generalize hN : n.toNat = N at *
  have hnN : n = (N : Int) := by omega
  subst hnN
  refine c_nil 100 2 ?_
  refine c_nil 101 1 ?_
  refine c_star0 ?_
  refine c_loop (fun x : Nat × Value × List Value × Value => x.1 ≤ N ∧ x.2.2.1.length = ((dartsOf (nearS (tn es)) (List.range x.1)).foldl (facesStep G (2 * es.length + 1)) []).length)
    (fun x => [(1, vr), (2, .pointer (some ⟨bg, 0, none⟩)), (5, x.2.1), (6, x.2.2.2), (7, .int .i64 (x.1 : Int))])
    (fun x => [rowHP x.2.1 101 1 ((dartsOf (nearS (tn es)) (List.range x.1)).foldl (facesStep G (2 * es.length + 1)) []).length x.2.2.1, starHP (kids rowD x.2.2.1 ((dartsOf (nearS (tn es)) (List.range x.1)).foldl (facesStep G (2 * es.length + 1)) [])),
      rowHP x.2.2.2 100 2 ((dartsOf (nearS (tn es)) (List.range x.1)).foldl (facesStep G (2 * es.length + 1)) []).flatten.length (dsV ((dartsOf (nearS (tn es)) (List.range x.1)).foldl (facesStep G (2 * es.length + 1)) []).flatten), boxHP bg 24 [.int .i64 (N : Int), v]])
    (fun x => N - x.1) (0, .slice none 0 0, [], .slice none 0 0) [1, 0, 0, 0] ⟨Nat.zero_le _, rfl⟩ (by exact rfl) ⟨rfl, rfl, rfl, rfl, rfl, trivial⟩ ?_
  rintro ⟨u, vo, ho, vm⟩ ⟨hu, hol⟩
  dsimp only at hu hol ⊢
  have hFu := hFa _ (hsub u hu)
  have hdsu : dartsOf (nearS (tn es)) (List.range (u + 1)) = dartsOf (nearS (tn es)) (List.range u) ++ vc (nearS (tn es)) u := by rw [List.range_succ, dartsOf, List.flatMap_append]; simp [dartsOf]
  by_cases hlt : u < N
  · obtain ⟨hx, hhx⟩ : ∃ x, hr0[u]? = some x := ⟨_, List.getElem?_eq_getElem (by have := hR.len; omega)⟩
    obtain ⟨l, hl⟩ : ∃ l, R[u]? = some l := ⟨_, List.getElem?_eq_getElem (by omega)⟩
    obtain ⟨hsx, hrx⟩ := hR.kid u hx l hhx hl
    have hgd : rf R u = l := by rw [rf, List.getD_eq_getElem?_getD, hl]; rfl
    have h1' : hr0[u * 1]? = some hx := by rw [Nat.mul_one]; exact hhx
    have hnfu := hnf u
    rw [hgd] at hnfu
    have hPs : ∀ k, ((List.range (k + 1)).filter fun v => decide (v ∈ l)).map (fun x => (u, x)) = ((List.range k).filter fun v => decide (v ∈ l)).map (fun x => (u, x)) ++ if k ∈ l then [(u, k)] else [] := fun k => by
      rw [List.range_succ, List.filter_append, List.map_append]
      by_cases hk : k ∈ l <;> simp [hk]
    have hPm : ∀ k, k < N → k ∈ l → (u, k) ∈ ds := fun k hk hkl => (hdm (u, k)).2 (by rw [hgd]; exact hkl)
    have hFk : ∀ k, k ≤ N → Fs G ds ((((List.range k).filter fun v => decide (v ∈ l)).map (fun x => (u, x))).foldl (facesStep G (2 * es.length + 1)) ((dartsOf (nearS (tn es)) (List.range u)).foldl (facesStep G (2 * es.length + 1)) [])) := fun k hk => by
      rw [← List.foldl_append]
      refine hFa _ fun z hz => ?_
      rcases List.mem_append.1 hz with hz | hz
      · exact hsub u hu z hz
      · obtain ⟨x, hx, rfl⟩ := List.mem_map.1 hz
        obtain ⟨h1, h2⟩ := List.mem_filter.1 hx
        exact hPm x (by have := List.mem_range.1 h1; omega) (by simpa using h2)
    have hO1 : (dartsOf (nearS (tn es)) (List.range (u + 1))).foldl (facesStep G (2 * es.length + 1)) [] = (((List.range N).filter fun v => decide (v ∈ l)).map (fun x => (u, x))).foldl (facesStep G (2 * es.length + 1)) ((dartsOf (nearS (tn es)) (List.range u)).foldl (facesStep G (2 * es.length + 1)) []) := by rw [hdsu, List.foldl_append, hnfu]
    generalize (dartsOf (nearS (tn es)) (List.range u)).foldl (facesStep G (2 * es.length + 1)) [] = X at *
    repeat' first
      | refine k_then ?_ | refine c_seq ?_ | refine c_region ?_ | refine s_nil ?_ | refine s_move (by exact rfl) (by exact rfl) ?_ | refine s_assign (by exact rfl) (by exact rfl) ?_ | refine s_fa (by exact rfl) (by exact rfl) ?_ | refine s_ld_box (by exact rfl) (by exact rfl) (by exact .tail _ (.tail _ (.tail _ (.head _)))) (by exact rfl) ?_ | refine s_lss (by exact rfl) (by exact rfl) (by exact rfl) ?_ | refine c_block ?_ | refine c_skip ?_ | (refine c_cond_p (by exact rfl) (fun h => ?_) (fun h => ?_) <;> try (exfalso; omega))
    refine c_loop (fun x : Nat × Value × List Value × Value => x.1 ≤ N ∧ x.2.2.1.length = ((((List.range x.1).filter fun v => decide (v ∈ l)).map (fun x => (u, x))).foldl (facesStep G (2 * es.length + 1)) X).length)
      (fun x => [(1, vr), (2, .pointer (some ⟨bg, 0, none⟩)), (5, x.2.1), (6, x.2.2.2), (7, .int .i64 (u : Int)), (8, .int .i64 (x.1 : Int))])
      (fun x => [rowHP x.2.1 101 1 ((((List.range x.1).filter fun v => decide (v ∈ l)).map (fun x => (u, x))).foldl (facesStep G (2 * es.length + 1)) X).length x.2.2.1, starHP (kids rowD x.2.2.1 ((((List.range x.1).filter fun v => decide (v ∈ l)).map (fun x => (u, x))).foldl (facesStep G (2 * es.length + 1)) X)),
        rowHP x.2.2.2 100 2 ((((List.range x.1).filter fun v => decide (v ∈ l)).map (fun x => (u, x))).foldl (facesStep G (2 * es.length + 1)) X).flatten.length (dsV ((((List.range x.1).filter fun v => decide (v ∈ l)).map (fun x => (u, x))).foldl (facesStep G (2 * es.length + 1)) X).flatten), boxHP bg 24 [.int .i64 (N : Int), v]])
      (fun x => N - x.1) (0, vo, ho, vm) [0, 0, 0, 0] ⟨Nat.zero_le _, hol⟩ (by exact rfl) ⟨rfl, rfl, rfl, rfl, rfl, rfl, trivial⟩ ?_
    rintro ⟨k, vo2, ho2, vm2⟩ ⟨hk, hol2⟩
    dsimp only at hk hol2 ⊢
    have hF := hFk k hk
    have hF2 := hFk (k + 1)
    rw [hPs k, List.foldl_append] at hF2
    by_cases hkl : k < N
    · have hF2 := hF2 hkl
      have hOk : (((List.range (k + 1)).filter fun v => decide (v ∈ l)).map (fun x => (u, x))).foldl (facesStep G (2 * es.length + 1)) X = (if k ∈ l then [(u, k)] else []).foldl (facesStep G (2 * es.length + 1)) ((((List.range k).filter fun v => decide (v ∈ l)).map (fun x => (u, x))).foldl (facesStep G (2 * es.length + 1)) X) := by rw [hPs k, List.foldl_append]
      have hlen := hF.len
      generalize (((List.range k).filter fun v => decide (v ∈ l)).map (fun x => (u, x))).foldl (facesStep G (2 * es.length + 1)) X = out at *
      refine know_row (v := vm2) (by exact .tail _ (.tail _ (.head _))) fun hvm2 _ => ?_
      repeat' first
        | refine k_then ?_ | refine c_seq ?_ | refine c_region ?_ | refine s_nil ?_ | refine s_move (by exact rfl) (by exact rfl) ?_ | refine s_fa (by exact rfl) (by exact rfl) ?_ | refine s_ld_box (by exact rfl) (by exact rfl) (by exact .tail _ (.tail _ (.tail _ (.head _)))) (by exact rfl) ?_ | refine s_lss (by exact rfl) (by exact rfl) (by exact rfl) ?_ | refine c_block ?_ | refine c_skip ?_ | (refine c_cond_p (by exact rfl) (fun h => ?_) (fun h => ?_) <;> try (exfalso; omega))
      refine o_build (cs := [.int .i64 (u : Int), .int .i64 (k : Int)]) [(0, .int .i64 (u : Int), [.int .i64 (u : Int)]), (1, .int .i64 (k : Int), [.int .i64 (k : Int)])] (by exact rfl) (by exact rfl) (by simp [Value.cells]) (by exact rfl) ?_
      repeat' first
        | refine o_alloc (by exact rfl) (fun b => ?_)
      revert b; intro b9
      refine o_stk_box (i := 0) (us := [.int .i64 (u : Int), .int .i64 (k : Int)]) (by exact rfl) (by exact rfl) (by exact rfl) (by exact rfl) (by exact rfl) (by simp [Value.oneCell']) (by simp [Value.cells]) ?_
      repeat' first
        | refine k_then ?_ | refine c_seq ?_ | refine c_region ?_ | refine s_nil ?_ | refine s_move (by exact rfl) (by exact rfl) ?_ | refine s_idx (by exact rfl) (by exact rfl) (by exact rfl) (by assumption) (by first | assumption | omega) ?_ | refine s_ld_ro (by exact rfl) (by exact rfl) (by assumption) (by assumption) ?_
      refine s_call (by exact rfl) (by exact rfl) (fun w h => HasN_ok hx l k w hsx (ro_old h hrx)) ?_
      by_cases hkin : k ∈ l
      · rw [decide_eq_true hkin]
        rw [if_pos hkin, List.foldl_cons, List.foldl_nil] at hOk hF2
        repeat' first
          | refine s_move (by exact rfl) (by exact rfl) ?_ | refine s_not (by exact rfl) (by exact rfl) ?_ | refine w_move (by exact rfl) (by exact rfl) (by exact rfl) (by exact rfl) ?_ | refine w_ldk_box (by exact rfl) (by exact rfl) (by exact rfl) (by exact rfl) (by exact .head _) (by exact rfl) (by exact rfl) ?_ | refine g_on (by exact rfl) (by exact rfl) ?_
        refine s_call (by exact rfl) (by exact rfl) (fun w h => in_ok vm2 out.flatten (u, k) w hvm2 (ro_own h (by exact .tail _ (.tail _ (.tail _ (.head _)))))) ?_
        by_cases hmet : (u, k) ∈ out.flatten
        · rw [decide_eq_true hmet]
          rw [facesStep, if_pos hmet] at hOk
          repeat' first
            | refine k_then ?_ | refine c_region ?_ | refine s_nil ?_ | refine s_move (by exact rfl) (by exact rfl) ?_ | refine s_assign (by exact rfl) (by exact rfl) ?_ | refine s_add (by exact rfl) (by exact rfl) (by exact rfl) (by omega) ?_ | refine s_pick_f (by exact rfl) (by exact rfl) (by exact rfl) ?_ | refine c_exit ?_ | refine k_then_exit ?_ | refine k_blk_eq ?_ | refine c_cond_t (by exact rfl) ?_
          refine c_round (k + 1, vo2, ho2, vm2) [1, 1, 1, 1] (by dsimp only; rw [hOk]; rfl) ⟨rfl, rfl, rfl, rfl, rfl, rfl, trivial⟩ ⟨by dsimp only; omega, by dsimp only; rw [hOk]; exact hol2⟩ (by dsimp only; omega)
        · rw [decide_eq_false hmet]
          rw [facesStep, if_neg hmet] at hOk hF2
          have hstart := hF.start (hPm k hkl hkin) hmet
          repeat' first
            | refine k_then ?_ | refine c_seq ?_ | refine c_region ?_ | refine s_nil ?_ | refine s_assign (by exact rfl) (by exact rfl) ?_ | refine s_pick_f (by exact rfl) (by exact rfl) (by exact rfl) ?_ | refine s_ldk_box (by exact rfl) (by exact rfl) (by exact .head _) (by exact rfl) (by exact rfl) ?_ | refine o_alloc (by exact rfl) (fun b => ?_) | refine c_skip ?_ | refine c_cond_f (by exact rfl) ?_
          refine o_stk_box (i := 0) (us := [.int .i64 (u : Int), .int .i64 (k : Int)]) (by exact rfl) (by exact rfl) (by exact rfl) (by exact rfl) (by exact rfl) (by simp [Value.oneCell']) (by simp [Value.cells]) ?_
          repeat' first
            | refine k_then ?_ | refine s_nil ?_ | refine c_block ?_
          refine c_nil 100 2 ?_
          refine c_loop (fun x : List (Nat × Nat) × (Nat × Nat) × Value × Nat => InF G ds out (u, k) x.1 x.2.1 ∧ (x.1 = [] ∨ x.2.1 ≠ (u, k)))
            (fun x => [(1, vr), (2, .pointer (some ⟨bg, 0, none⟩)), (5, vo2), (6, vm2), (7, .int .i64 (u : Int)), (8, .int .i64 (k : Int)), (9, .pointer (some ⟨b9, 0, none⟩)), (10, x.2.2.1), (11, .pointer (some ⟨x.2.2.2, 0, none⟩))])
            (fun x => [rowHP x.2.2.1 100 2 x.1.length (dsV x.1), boxHP x.2.2.2 100 [.int .i64 (x.2.1.1 : Int), .int .i64 (x.2.1.2 : Int)], boxHP b9 100 [.int .i64 (u : Int), .int .i64 (k : Int)], rowHP vo2 101 1 out.length ho2, starHP (kids rowD ho2 out), rowHP vm2 100 2 out.flatten.length (dsV out.flatten), boxHP bg 24 [.int .i64 (N : Int), v]])
            (fun x => ds.length - x.1.length) ([], (u, k), .slice none 0 0, b) [0, 0, 0, 0, 0, 0, 0] ⟨hstart, .inl rfl⟩ (by exact rfl) ⟨rfl, rfl, rfl, rfl, rfl, rfl, rfl, rfl, rfl, trivial⟩ ?_
          rintro ⟨f, x, vf, bx⟩ ⟨hI, hne⟩
          dsimp only at hI hne ⊢
          have hxm := hI.mem
          obtain ⟨hxf, hI2⟩ := hI.more hi hm hF.cy hF.sub hne
          have hroom := hI.room hxf
          have hxin := hin x hxm
          have hgx := hin (G x) (hm x hxm)
          refine know_row (v := vf) (.head _) fun hvf _ => ?_
          repeat' first
            | refine k_then ?_ | refine c_seq ?_ | refine c_region ?_ | refine s_nil ?_ | refine s_move (by exact rfl) (by exact rfl) ?_ | refine s_fa (by exact rfl) (by exact rfl) ?_ | refine s_ld_box (by exact rfl) (by exact rfl) (by exact .tail _ (.tail _ (.tail _ (.tail _ (.tail _ (.tail _ (.head _))))))) (by exact rfl) ?_ | refine s_leq (by exact rfl) (by exact rfl) (by exact rfl) ?_ | refine s_mul (by exact rfl) (by exact rfl) (by exact rfl) (by omega) ?_ | refine s_len (by exact rfl) (by exact rfl) (by assumption) ?_ | refine s_ldk_box (by exact rfl) (by exact rfl) (by exact .tail _ (.head _)) (by exact rfl) (by exact rfl) ?_ | refine c_block ?_ | refine c_skip ?_ | (refine c_cond_p (by exact rfl) (fun h => ?_) (fun h => ?_) <;> try (exfalso; omega))
          refine o_mk [.agg #[.int .i64 (x.1 : Int), .int .i64 (x.2 : Int)]] (by exact rfl) (by exact rfl) rfl ?_ ?_ (by simp) fun vt hvt => ?_
          · simp [Value.cells]
          · simp
          rw [show ([Value.agg #[.int .i64 (x.1 : Int), .int .i64 (x.2 : Int)]].flatMap fun u => u.cells.toList) = dsV [x] from rfl]
          skip
          refine o_append_row (i := 1) (by exact rfl) (by exact rfl) (by exact rfl) (by exact rfl) (by exact .head _) (by exact rfl) (by intro u hu; exact dsV_one _ u hu) ?_ fun vf2 hvf2 => ?_
          · show (f.length + 1) * 16 ≤ _
            omega
          repeat' first
            | refine k_then ?_ | refine c_seq ?_ | refine c_region ?_ | refine s_nil ?_ | refine s_move (by exact rfl) (by exact rfl) ?_ | refine s_assign (by exact rfl) (by exact rfl) ?_ | refine s_ldk_box (by exact rfl) (by exact rfl) (by exact .tail _ (.tail _ (.head _))) (by exact rfl) (by exact rfl) ?_
          refine s_call (by exact rfl) (by exact rfl) (fun w h => refNext_ok vr hr0 (intL R) x.1 x.2 w (rosI_old h hR.int)) ?_
          rw [hnx x hxm]
          repeat' first
            | refine s_move (by exact rfl) (by exact rfl) ?_ | refine s_extract (by exact rfl) (by exact rfl) (by exact rfl) ?_
          refine o_stk_box (i := 2) (us := [.int .i64 ((G x).1 : Int), .int .i64 ((G x).2 : Int)]) (by exact rfl) (by exact rfl) (by exact rfl) (by exact rfl) (by exact rfl) (by simp [Value.oneCell']) (by simp [Value.cells, putL]) ?_
          repeat' first
            | refine k_then ?_ | refine c_seq ?_ | refine c_region ?_ | refine s_nil ?_ | refine s_ldk_box (by exact rfl) (by exact rfl) (by first | exact .tail _ (.tail _ (.head _)) | exact .tail _ (.tail _ (.tail _ (.head _)))) (by exact rfl) (by exact rfl) ?_
          refine s_eql2 (by exact rfl) (by exact rfl) (by exact rfl) ?_
          repeat' first
            | refine k_then ?_ | refine c_seq ?_ | refine c_region ?_ | refine s_nil ?_ | refine s_move (by exact rfl) (by exact rfl) ?_ | refine s_ldk_box (by exact rfl) (by exact rfl) (by exact .tail _ (.tail _ (.head _))) (by exact rfl) (by exact rfl) ?_ | refine o_alloc (by exact rfl) (fun b => ?_) | refine c_skip ?_ | refine c_exit ?_ | refine k_then_exit ?_ | refine k_blk ?_ | refine k_blk_eq ?_ | refine k_blk_ne (by exact rfl) ?_ | (refine c_cond_p (by exact rfl) (fun h => ?_) (fun h => ?_) <;> try (exfalso; omega))
          · have e : G x = (u, k) := Prod.ext (by dsimp only; omega) (by dsimp only; omega)
            rw [e] at hI2
            have htr : tr G (u, k) (2 * es.length + 1) (u, k) = f ++ [x] := hI2.tr (by simp) (by rw [List.length_append]; simp only [List.length_cons, List.length_nil]; omega)
            rw [htr] at hOk hF2
            have hF2l := hF2.len
            rw [List.flatten_append, List.length_append, List.length_append] at hF2l
            simp only [List.flatten_cons, List.flatten_nil, List.append_nil, List.length_append, List.length_cons, List.length_nil] at hF2l
            refine o_append_row (i := 6) (by exact rfl) (by exact rfl) (by exact rfl) (by exact rfl) (by exact .tail _ (.head _)) ?_ ?_ ?_ fun vm3 hvm3 => ?_
            · rw [List.length_append, dsV_length, dsV_length]; simp only [List.length_cons, List.length_nil]; omega
            · intro u hu
              rcases List.mem_append.1 hu with hu | hu
              · exact dsV_one _ u hu
              · exact dsV_one _ u hu
            · show (out.flatten.length + (f.length + 1)) * 16 ≤ _
              omega
            repeat' first
              | refine k_then ?_ | refine c_region ?_ | refine s_nil ?_ | refine s_move (by exact rfl) (by exact rfl) ?_ | refine s_assign (by exact rfl) (by exact rfl) ?_
            refine o_mk [vf2] (by exact rfl) (by exact rfl) rfl ?_ ?_ (by simp) fun vt2 hvt2 => ?_
            · intro u hu
              obtain rfl : u = vf2 := by simpa using hu
              rw [← Array.length_toList, one_cells hvf2.one]; rfl
            · simp
            rw [show ([vf2].flatMap fun u => u.cells.toList) = [vf2] from by simp [one_cells hvf2.one]]
            skip
            refine o_append_row (i := 5) (by exact rfl) (by exact rfl) (by exact rfl) (by exact rfl) (by exact .head _) (by exact rfl) (by simp [hvf2.one]) ?_ fun vo3 hvo3 => ?_
            · show (out.length + 1) * 24 ≤ _
              omega
            repeat' first
              | refine k_then ?_ | refine c_region ?_ | refine s_nil ?_ | refine s_move (by exact rfl) (by exact rfl) ?_ | refine s_assign (by exact rfl) (by exact rfl) ?_ | refine s_add (by exact rfl) (by exact rfl) (by exact rfl) (by omega) ?_ | refine k_blk ?_
            refine c_pick [2, 4, 4, 4, 4] (by exact rfl) ?_
            refine c_pushk 1 (by exact rfl) ?_
            refine c_round (k + 1, vo3, ho2 ++ [vf2], vm3) [0, 0, 0, 0] ?_ ⟨rfl, rfl, rfl, rfl, rfl, rfl, trivial⟩ ⟨by dsimp only; omega, by dsimp only; rw [hOk, List.length_append, List.length_append, hol2]; rfl⟩ (by dsimp only; omega)
            dsimp only
            rw [hOk, kids_append hol2, List.flatten_append, show [f ++ [x]].flatten = f ++ [x] by simp, dsV_append, dsV_append, List.length_append, List.length_append, List.length_append, show rowD vf2 (f ++ [x]) = rowHP vf2 100 2 (f.length + 1) (dsV f ++ dsV [x]) from by rw [rowD, dsV_append, List.length_append]; rfl]
            rfl
          · have e : G x ≠ (u, k) := fun e => h (by rw [e]; exact ⟨rfl, rfl⟩)
            refine o_stk_box (i := 0) (us := [.int .i64 ((G x).1 : Int), .int .i64 ((G x).2 : Int)]) (by exact rfl) (by exact rfl) (by exact rfl) (by exact rfl) (by exact rfl) (by simp [Value.oneCell']) (by simp [Value.cells, putL]) ?_
            repeat' first
              | refine k_then ?_ | refine s_nil ?_
            refine c_round (f ++ [x], G x, vf2, b) [2, 0, 2, 2, 2, 2, 2] ?_ ⟨rfl, rfl, rfl, rfl, rfl, rfl, rfl, rfl, rfl, trivial⟩ ⟨hI2, .inr e⟩ (by dsimp only; rw [List.length_append]; simp only [List.length_cons, List.length_nil]; omega)
            dsimp only
            rw [dsV_append, List.length_append]
            rfl
      · rw [decide_eq_false hkin]
        rw [if_neg hkin, List.foldl_nil] at hOk
        repeat' first
          | refine k_then ?_ | refine c_region ?_ | refine s_nil ?_ | refine s_move (by exact rfl) (by exact rfl) ?_ | refine s_assign (by exact rfl) (by exact rfl) ?_ | refine s_add (by exact rfl) (by exact rfl) (by exact rfl) (by omega) ?_ | refine s_not (by exact rfl) (by exact rfl) ?_ | refine s_pick_t (by exact rfl) (by exact rfl) (by exact rfl) ?_ | refine c_exit ?_ | refine k_then_exit ?_ | refine k_blk_eq ?_ | refine c_cond_t (by exact rfl) ?_ | refine g_skip (by exact rfl) (by exact rfl) (by exact rfl) (by exact rfl) ?_
        refine c_round (k + 1, vo2, ho2, vm2) [1, 1, 1, 1] (by dsimp only; rw [hOk]; rfl) ⟨rfl, rfl, rfl, rfl, rfl, rfl, trivial⟩ ⟨by dsimp only; omega, by dsimp only; rw [hOk]; exact hol2⟩ (by dsimp only; omega)
    · repeat' first
        | refine k_then ?_ | refine c_seq ?_ | refine c_region ?_ | refine s_nil ?_ | refine s_move (by exact rfl) (by exact rfl) ?_ | refine s_assign (by exact rfl) (by exact rfl) ?_ | refine s_fa (by exact rfl) (by exact rfl) ?_ | refine s_ld_box (by exact rfl) (by exact rfl) (by exact .tail _ (.tail _ (.tail _ (.head _)))) (by exact rfl) ?_ | refine s_lss (by exact rfl) (by exact rfl) (by exact rfl) ?_ | refine s_add (by exact rfl) (by exact rfl) (by exact rfl) (by omega) ?_ | refine c_exit ?_ | refine k_then_exit ?_ | refine k_blk ?_ | refine k_blk_eq ?_ | (refine c_cond_p (by exact rfl) (fun h => ?_) (fun h => ?_) <;> try (exfalso; omega))
      obtain rfl : k = N := by omega
      refine c_round (u + 1, vo2, ho2, vm2) [0, 0, 0, 0] (by dsimp only; rw [hO1]; rfl) ⟨rfl, rfl, rfl, rfl, rfl, trivial⟩ ⟨by dsimp only; omega, by dsimp only; rw [hO1]; exact hol2⟩ (by dsimp only; omega)
  · repeat' first
      | refine k_then ?_ | refine c_seq ?_ | refine c_region ?_ | refine s_nil ?_ | refine s_move (by exact rfl) (by exact rfl) ?_ | refine s_assign (by exact rfl) (by exact rfl) ?_ | refine s_fa (by exact rfl) (by exact rfl) ?_ | refine s_ld_box (by exact rfl) (by exact rfl) (by exact .tail _ (.tail _ (.tail _ (.head _)))) (by exact rfl) ?_ | refine s_lss (by exact rfl) (by exact rfl) (by exact rfl) ?_ | refine c_exit ?_ | refine c_ret ?_ | refine k_then_exit ?_ | refine k_blk_eq ?_ | (refine c_cond_p (by exact rfl) (fun h => ?_) (fun h => ?_) <;> try (exfalso; omega))
    obtain rfl : u = N := by omega
    refine ret1 [0, 0] rfl rfl rfl ⟨ho, hol, rfl⟩
/-- lists of darts that are read -/
structure ROd (w : World) (S : FS) (v : Value) (hs : List Value) (F : List (List (Nat × Nat))) : Prop where
  shp : Shp v F.length
  len : hs.length = F.length
  ro : RO w S v hs
  kid : ∀ (i : Nat) h l, hs[i]? = some h → F[i]? = some l → Shp h l.length ∧ RO w S h (dsV l)
end Go.Proofs.YtpajjnkmaebhcabGreat
end
section
namespace Go.Proofs.YtpajjnkmaebhcabGreat
open Go.RowKit Go.Sl Fil
set_option maxRecDepth 100000
set_option maxHeartbeats 8000000
set_option linter.unusedVariables false
set_option linter.unusedSimpArgs false
attribute [local irreducible] Code.wp wpList bodyPost wpQuiet Exit.then Exit.inBlock Post wpAnyH wpOp
theorem Labels_ok (n : Int) (v : Value) (es : List E) (w : World) (hs : Shp v es.length) (hr : RO w No v (esV es)) (hR : RightG n es) :
    Calls Tryz.prog 90 #[.agg #[.int .i64 n, v]] w (Post w No fun r L' => L' = [rowHP r 3 1 n.toNat (nV (rounds relaxL (tn es) n.toNat (List.range n.toNat)))]) := by
  have hm : es.length < 4611686018427387904 := by have := hR.many; omega
  have hlo := hR.lo
  have hhi := hR.hi
  refine enter0 (vs := [_]) Tryz.func90 rfl Tryz.ntmps90 rfl ?_
  repeat' first
    | refine k_then ?_ | refine c_seq ?_ | refine c_region ?_ | refine s_nil ?_ | refine s_assign (by exact rfl) (by exact rfl) ?_ | refine s_fa (by exact rfl) (by exact rfl) ?_ | refine s_ld_box (by exact rfl) (by exact rfl) (by exact .head _) (by exact rfl) ?_ | refine o_box (by exact rfl) (by exact rfl) (fun b => ?_)
  refine o_make (by exact rfl) (by exact rfl) (by exact rfl) (by omega) (by omega) fun vl hvl => ?_
  rw [made1 (z := .int .i64 0) rfl]
  repeat' first
    | refine k_then ?_ | refine c_seq ?_ | refine c_region ?_ | refine s_nil ?_ | refine s_assign (by exact rfl) (by exact rfl) ?_ | refine c_block ?_
  generalize hN : n.toNat = N at *
  have hnN : n = (N : Int) := by omega
  subst hnN
  refine c_loop (fun i : Nat => i ≤ N) (fun i => [(1, .pointer (some ⟨b, 0, none⟩)), (3, vl), (4, .int .i64 (i : Int))]) (fun i => [rowHP vl 3 1 N (nV (fillL id 0 N i)), boxHP b 24 [.int .i64 (N : Int), v]]) (fun i => N - i) 0 [0, 0] (Nat.zero_le _) (by rw [fill_zero]; simp only [nV, List.map_replicate]; rfl) ⟨rfl, rfl, rfl, trivial⟩ ?_
  intro i hi
  by_cases hil : i < N
  · repeat' first
      | refine k_then ?_ | refine c_seq ?_ | refine c_region ?_ | refine s_nil ?_ | refine s_move (by exact rfl) (by exact rfl) ?_ | refine s_fa (by exact rfl) (by exact rfl) ?_ | refine s_ld_box (by exact rfl) (by exact rfl) (by exact .tail _ (.head _)) (by exact rfl) ?_ | refine s_lss (by exact rfl) (by exact rfl) (by exact rfl) ?_ | refine s_idx (by exact rfl) (by exact rfl) (by exact rfl) (by assumption) (by first | assumption | omega) ?_ | refine c_block ?_ | refine c_skip ?_ | (refine c_cond_p (by exact rfl) (fun h => ?_) (fun h => ?_) <;> try (exfalso; omega))
    refine o_st_row (i := 0) (by exact rfl) (by exact rfl) (by exact rfl) rfl (by omega) ?_
    repeat' first
      | refine k_then ?_ | refine c_region ?_ | refine s_nil ?_ | refine s_move (by exact rfl) (by exact rfl) ?_ | refine s_assign (by exact rfl) (by exact rfl) ?_ | refine s_add (by exact rfl) (by exact rfl) (by exact rfl) (by omega) ?_ | refine k_blk ?_
    refine c_round (i + 1) [0, 0] (by rw [nV_set, ← fill_set id 0 hil]; rfl) (by exact ⟨rfl, rfl, rfl, trivial⟩) (by omega) (by omega)
  · repeat' first
      | refine k_then ?_ | refine c_seq ?_ | refine c_region ?_ | refine s_nil ?_ | refine s_move (by exact rfl) (by exact rfl) ?_ | refine s_assign (by exact rfl) (by exact rfl) ?_ | refine s_fa (by exact rfl) (by exact rfl) ?_ | refine s_ld_box (by exact rfl) (by exact rfl) (by exact .tail _ (.head _)) (by exact rfl) ?_ | refine s_lss (by exact rfl) (by exact rfl) (by exact rfl) ?_ | refine c_block ?_ | refine c_exit ?_ | refine k_then_exit ?_ | refine k_blk_eq ?_ | (refine c_cond_p (by exact rfl) (fun h => ?_) (fun h => ?_) <;> try (exfalso; omega))
    obtain rfl : i = N := by omega
    have hl0 : (List.range i).length = i := by simp
    have hlen : ∀ (r : List (Nat × Nat)) (c : List Nat), (r.foldl relaxL c).length = c.length := by
      intro r
      induction r with
      | nil => intro c; rfl
      | cons e r ih => intro c; rw [List.foldl_cons, ih]; simp [relaxL]
    have hrl : ∀ k, (rounds relaxL (tn es) k (List.range i)).length = i := by
      intro k
      induction k with
      | zero => simp [rounds]
      | succ k ih => rw [rounds, hlen, ih]
    refine c_loop (fun q : Nat => q ≤ i) (fun q => [(1, .pointer (some ⟨b, 0, none⟩)), (3, vl), (5, .int .i64 (q : Int))]) (fun q => [rowHP vl 3 1 i (nV (rounds relaxL (tn es) q (List.range i))), boxHP b 24 [.int .i64 (i : Int), v]]) (fun q => i - q) 0 [0, 0] (Nat.zero_le _) (by rw [fillL_all, List.map_id]; rfl) ⟨rfl, rfl, rfl, trivial⟩ ?_
    intro q hq
    by_cases hql : q < i
    · repeat' first
        | refine k_then ?_ | refine c_seq ?_ | refine c_region ?_ | refine s_nil ?_ | refine s_move (by exact rfl) (by exact rfl) ?_ | refine s_assign (by exact rfl) (by exact rfl) ?_ | refine s_fa (by exact rfl) (by exact rfl) ?_ | refine s_ld_box (by exact rfl) (by exact rfl) (by exact .tail _ (.head _)) (by exact rfl) ?_ | refine s_lss (by exact rfl) (by exact rfl) (by exact rfl) ?_ | refine c_block ?_ | refine c_skip ?_ | (refine c_cond_p (by exact rfl) (fun h => ?_) (fun h => ?_) <;> try (exfalso; omega))
      generalize hc0 : rounds relaxL (tn es) q (List.range i) = c0 at *
      have hc0l : c0.length = i := by rw [← hc0]; exact hrl q
      refine c_loop (fun k : Nat => k ≤ es.length) (fun k => [(1, .pointer (some ⟨b, 0, none⟩)), (3, vl), (5, .int .i64 (q : Int)), (6, .int .i64 (k : Int))]) (fun k => [rowHP vl 3 1 i (nV ((tn (es.take k)).foldl relaxL c0)), boxHP b 24 [.int .i64 (i : Int), v]]) (fun k => es.length - k) 0 [0, 0] (Nat.zero_le _) (by exact rfl) ⟨rfl, rfl, rfl, rfl, trivial⟩ ?_
      intro k hk
      by_cases hkl : k < es.length
      · obtain ⟨e, he⟩ : ∃ e, es[k]? = some e := ⟨_, List.getElem?_eq_getElem hkl⟩
        obtain ⟨hE0, hE1, hE2⟩ := esV_get he
        obtain ⟨q1, q2, q3, -, -⟩ := hR.ok e (List.mem_of_getElem? he)
        have htk := tn_take he
        generalize hc : (tn (es.take k)).foldl relaxL c0 = c at *
        have hcl : c.length = i := by rw [← hc, hlen]; exact hc0l
        have hu := nV_get (l := c) (k := e.1.toNat) (by omega)
        have hv := nV_get (l := c) (k := e.2.1.toNat) (by omega)
        repeat' first
          | refine k_then ?_ | refine c_seq ?_ | refine c_region ?_ | refine s_nil ?_ | refine s_move (by exact rfl) (by exact rfl) ?_ | refine s_fa (by exact rfl) (by exact rfl) ?_ | refine s_ld_box (by exact rfl) (by exact rfl) (by exact .tail _ (.head _)) (by exact rfl) ?_ | refine s_lss (by exact rfl) (by exact rfl) (by exact rfl) ?_ | refine s_len (by exact rfl) (by exact rfl) (by assumption) ?_ | refine c_block ?_ | refine c_skip ?_ | (refine c_cond_p (by exact rfl) (fun h => ?_) (fun h => ?_) <;> try (exfalso; omega))
        refine p_begin0 [(0, true), (1, true), (2, true), (3, true), (4, true), (5, true), (6, true), (7, true), (8, true), (9, true), (10, true), (11, true), (12, true), (13, true), (14, true), (15, true), (16, true), (17, true), (18, true), (19, true)] (by kernel_rfl) ?_
        repeat' first
          | refine p_nil ?_
          | (refine p_at (by exact rfl) ?_
             first
              | refine t_move (by exact rfl) (by exact rfl) (by exact fun _ h => h) ?_ | refine t_assign (by exact rfl) (by exact rfl) (by exact fun _ h => h) ?_ | refine t_fa (by exact rfl) (by exact rfl) (by exact fun _ h => h) ?_ | refine t_ld_box (by exact rfl) (by exact rfl) (by exact .tail _ (.head _)) (by exact rfl) (by exact fun _ h => h) ?_ | refine t_min (by exact rfl) (by exact rfl) (by exact rfl) (by exact fun _ h => h) ?_ | refine t_idx (by exact rfl) (by exact rfl) (by exact rfl) (by assumption) (by first | assumption | omega) (by exact fun _ h => h) ?_ | refine t_idxi (by exact rfl) (by exact rfl) (by exact rfl) (by assumption) (by first | assumption | omega) (by exact fun _ h => h) ?_ | refine t_fap (by exact rfl) (by exact rfl) (by assumption) (by omega) (by exact fun _ h => h) ?_ | refine t_ld_ro (by exact rfl) (by exact rfl) (by assumption) (by assumption) (by exact fun _ h => h) ?_ | refine t_ld_row (by exact rfl) (by exact rfl) (by exact .head _) (by assumption) (by exact fun _ h => h) ?_)
        repeat' first
          | refine k_then ?_ | refine c_seq ?_ | refine c_region ?_ | refine s_move (by exact rfl) (by exact rfl) ?_ | refine s_fa (by exact rfl) (by exact rfl) ?_ | refine s_ld_box (by exact rfl) (by exact rfl) (by exact .tail _ (.head _)) (by exact rfl) ?_ | refine s_idx (by exact rfl) (by exact rfl) (by exact rfl) (by assumption) (by first | assumption | omega) ?_ | refine s_idxi (by exact rfl) (by exact rfl) (by exact rfl) (by assumption) (by first | assumption | omega) ?_ | refine s_fap (by exact rfl) (by exact rfl) (by assumption) (by omega) ?_ | refine s_ld_ro (by exact rfl) (by exact rfl) (by assumption) (by assumption) ?_
        rw [show min ((c.getD e.1.toNat 0 : Nat) : Int) ((c.getD e.2.1.toNat 0 : Nat) : Int) = ((min (c.getD e.1.toNat 0) (c.getD e.2.1.toNat 0) : Nat) : Int) from by omega]
        refine o_st_row (i := 0) (by exact rfl) (by exact rfl) (by exact rfl) rfl (by omega) ?_
        repeat' first
          | refine k_then ?_ | refine c_region ?_ | refine s_nil ?_ | refine s_move (by exact rfl) (by exact rfl) ?_ | refine s_fa (by exact rfl) (by exact rfl) ?_ | refine s_ld_box (by exact rfl) (by exact rfl) (by exact .tail _ (.head _)) (by exact rfl) ?_ | refine s_idx (by exact rfl) (by exact rfl) (by exact rfl) (by assumption) (by first | assumption | omega) ?_ | refine s_idxi (by exact rfl) (by exact rfl) (by exact rfl) (by assumption) (by first | assumption | omega) ?_ | refine s_fap (by exact rfl) (by exact rfl) (by assumption) (by omega) ?_ | refine s_ld_ro (by exact rfl) (by exact rfl) (by assumption) (by assumption) ?_
        refine o_st_row (i := 0) (by exact rfl) (by exact rfl) (by exact rfl) rfl (by omega) ?_
        repeat' first
          | refine k_then ?_ | refine c_region ?_ | refine s_nil ?_ | refine s_move (by exact rfl) (by exact rfl) ?_ | refine s_assign (by exact rfl) (by exact rfl) ?_ | refine s_add (by exact rfl) (by exact rfl) (by exact rfl) (by omega) ?_ | refine k_blk ?_
        refine c_round (k + 1) [0, 0] ?_ (by exact ⟨rfl, rfl, rfl, rfl, trivial⟩) (by omega) (by omega)
        rw [htk, List.foldl_append, hc, nV_set, nV_set]
        rfl
      · repeat' first
          | refine k_then ?_ | refine c_seq ?_ | refine c_region ?_ | refine s_nil ?_ | refine s_move (by exact rfl) (by exact rfl) ?_ | refine s_assign (by exact rfl) (by exact rfl) ?_ | refine s_fa (by exact rfl) (by exact rfl) ?_ | refine s_ld_box (by exact rfl) (by exact rfl) (by exact .tail _ (.head _)) (by exact rfl) ?_ | refine s_lss (by exact rfl) (by exact rfl) (by exact rfl) ?_ | refine s_add (by exact rfl) (by exact rfl) (by exact rfl) (by omega) ?_ | refine s_len (by exact rfl) (by exact rfl) (by assumption) ?_ | refine c_exit ?_ | refine k_then_exit ?_ | refine k_blk ?_ | refine k_blk_eq ?_ | (refine c_cond_p (by exact rfl) (fun h => ?_) (fun h => ?_) <;> try (exfalso; omega))
        obtain rfl : k = es.length := by omega
        refine c_round (q + 1) [0, 0] (by rw [List.take_length, rounds, hc0]; rfl) (by exact ⟨rfl, rfl, rfl, trivial⟩) (by omega) (by omega)
    · repeat' first
        | refine k_then ?_ | refine c_seq ?_ | refine c_region ?_ | refine s_nil ?_ | refine s_move (by exact rfl) (by exact rfl) ?_ | refine s_assign (by exact rfl) (by exact rfl) ?_ | refine s_fa (by exact rfl) (by exact rfl) ?_ | refine s_ld_box (by exact rfl) (by exact rfl) (by exact .tail _ (.head _)) (by exact rfl) ?_ | refine s_lss (by exact rfl) (by exact rfl) (by exact rfl) ?_ | refine c_exit ?_ | refine c_ret ?_ | refine k_then_exit ?_ | refine k_blk_eq ?_ | (refine c_cond_p (by exact rfl) (fun h => ?_) (fun h => ?_) <;> try (exfalso; omega))
      obtain rfl : q = i := by omega
      refine ret1 [0] rfl rfl rfl rfl
end Go.Proofs.YtpajjnkmaebhcabGreat
end
section
namespace Go.Proofs.YtpajjnkmaebhcabGreat
open Go.RowKit Go.Sl Fil
set_option maxRecDepth 100000
set_option maxHeartbeats 8000000
set_option linter.unusedVariables false
set_option linter.unusedSimpArgs false
attribute [local irreducible] Code.wp wpList bodyPost wpQuiet Exit.then Exit.inBlock Post wpAnyH wpOp
theorem refComps_ok (n : Int) (v : Value) (es : List E) (o lab : Nat → Nat) (w : World) (hs : Shp v es.length) (hr : RO w No v (esV es)) (hR : RightG n es) (hLev : Lev n.toNat (nb (tn es)) o lab) :
    Calls Tryz.prog 69 #[.agg #[.int .i64 n, v]] w (Post w No fun r L' => ∃ hr : List Value, hr.length = (compsS n.toNat lab).length ∧ L' = [rowHP r 28 1 (compsS n.toNat lab).length hr, starHP (kids rowN hr (compsS n.toNat lab))]) := by
  have hlo := hR.lo
  have hhi := hR.hi
  refine enter0 (vs := [_]) Tryz.func69 rfl Tryz.ntmps69 rfl ?_
  repeat' first
    | refine k_then ?_ | refine c_seq ?_ | refine c_region ?_ | refine s_nil ?_ | refine s_assign (by exact rfl) (by exact rfl) ?_ | refine s_ldk_box (by exact rfl) (by exact rfl) (by exact .head _) (by exact rfl) (by exact rfl) ?_ | refine o_box (by exact rfl) (by exact rfl) (fun b => ?_)
  refine o_call (by exact rfl) (by exact rfl) (fun w h => Labels_ok n v es w hs (ro_old h hr) hR) ?_
  rintro vl _ rfl
  refine know_row (v := vl) (.head _) fun hvl _ => ?_
  rw [ref_labels hR.good hLev]
  repeat' first
    | refine k_then ?_ | refine c_seq ?_ | refine c_region ?_ | refine s_nil ?_ | refine s_assign (by exact rfl) (by exact rfl) ?_ | refine c_block ?_
  have hle := hLev.le
  generalize hN : n.toNat = N at *
  have hnN : n = (N : Int) := by omega
  subst hnN
  refine c_nil 28 1 ?_
  refine c_star0 ?_
  refine c_loop (fun x : Nat × Value × List Value => x.1 ≤ N ∧ x.2.2.length = (compsI N x.1 lab).length) (fun x => [(1, .pointer (some ⟨b, 0, none⟩)), (3, vl), (4, x.2.1), (5, .int .i64 (x.1 : Int))])
    (fun x => [rowHP x.2.1 28 1 (compsI N x.1 lab).length x.2.2, starHP (kids rowN x.2.2 (compsI N x.1 lab)), rowHP vl 3 1 N (nV ((List.range N).map lab)), boxHP b 24 [.int .i64 (N : Int), v]]) (fun x => N - x.1) (0, .slice none 0 0, []) [1, 0, 0, 0] ⟨Nat.zero_le _, rfl⟩ (by exact rfl) ⟨rfl, rfl, rfl, rfl, trivial⟩ ?_
  rintro ⟨i, vo, ho⟩ ⟨hi, hho⟩
  dsimp only at hi hho ⊢
  by_cases hil : i < N
  · have hli := nV_get (l := (List.range N).map lab) (k := i) (by simpa using hil)
    rw [show ((List.range N).map lab).getD i 0 = lab i from by simp [hil]] at hli
    by_cases hlab : lab i = i
    · have hadd := compsI_add (N := N) hlab
      have hcl := compsI_length N i lab
      generalize hcs : compsI N i lab = cs at *
      repeat' first
        | refine k_then ?_ | refine c_seq ?_ | refine c_region ?_ | refine s_nil ?_ | refine s_move (by exact rfl) (by exact rfl) ?_ | refine s_assign (by exact rfl) (by exact rfl) ?_ | refine s_fa (by exact rfl) (by exact rfl) ?_ | refine s_ld_box (by exact rfl) (by exact rfl) (by exact .tail _ (.tail _ (.tail _ (.head _)))) (by exact rfl) ?_ | refine s_lss (by exact rfl) (by exact rfl) (by exact rfl) ?_ | refine s_neq (by exact rfl) (by exact rfl) (by exact rfl) ?_ | refine s_idx (by exact rfl) (by exact rfl) (by exact rfl) (by assumption) (by first | assumption | omega) ?_ | refine s_ld_row (by exact rfl) (by exact rfl) (by exact .tail _ (.tail _ (.head _))) (by assumption) ?_ | refine c_block ?_ | refine c_skip ?_ | (refine c_cond_p (by exact rfl) (fun h => ?_) (fun h => ?_) <;> try (exfalso; omega))
      refine c_nil 3 1 ?_
      refine c_loop (fun x : Nat × Value => i ≤ x.1 ∧ x.1 ≤ N) (fun x => [(1, .pointer (some ⟨b, 0, none⟩)), (3, vl), (4, vo), (5, .int .i64 (i : Int)), (6, x.2), (7, .int .i64 (x.1 : Int))])
        (fun x => [rowHP x.2 3 1 ((List.range x.1).filter fun u => lab u == i).length (nV ((List.range x.1).filter fun u => lab u == i)), rowHP vo 28 1 cs.length ho, starHP (kids rowN ho cs), rowHP vl 3 1 N (nV ((List.range N).map lab)), boxHP b 24 [.int .i64 (N : Int), v]]) (fun x => N - x.1) (i, .slice none 0 0) [0, 0, 0, 0, 0] ⟨Nat.le_refl _, hi⟩ (by dsimp only; rw [row_low fun u hu => hle u (by omega)]; rfl) ⟨rfl, rfl, rfl, rfl, rfl, rfl, trivial⟩ ?_
      rintro ⟨u, vc⟩ ⟨hiu, hu⟩
      dsimp only at hiu hu ⊢
      by_cases hul : u < N
      · have hlu := nV_get (l := (List.range N).map lab) (k := u) (by simpa using hul)
        rw [show ((List.range N).map lab).getD u 0 = lab u from by simp [hul]] at hlu
        have hrl := row_length u i lab
        by_cases hlabu : lab u = i
        · have hra := row_add (u := u) hlabu
          generalize hrow : (List.range u).filter (fun u => lab u == i) = row at *
          repeat' first
            | refine k_then ?_ | refine c_seq ?_ | refine c_region ?_ | refine s_nil ?_ | refine s_move (by exact rfl) (by exact rfl) ?_ | refine s_fa (by exact rfl) (by exact rfl) ?_ | refine s_ld_box (by exact rfl) (by exact rfl) (by exact .tail _ (.tail _ (.tail _ (.tail _ (.head _))))) (by exact rfl) ?_ | refine s_lss (by exact rfl) (by exact rfl) (by exact rfl) ?_ | refine s_eql (by exact rfl) (by exact rfl) (by exact rfl) ?_ | refine s_idx (by exact rfl) (by exact rfl) (by exact rfl) (by assumption) (by first | assumption | omega) ?_ | refine s_ld_row (by exact rfl) (by exact rfl) (by exact .tail _ (.tail _ (.tail _ (.head _)))) (by assumption) ?_ | refine c_block ?_ | refine c_skip ?_ | (refine c_cond_p (by exact rfl) (fun h => ?_) (fun h => ?_) <;> try (exfalso; omega))
          refine o_mk [.int .i64 (u : Int)] (by exact rfl) (by exact rfl) rfl ?_ ?_ (by simp) fun vt hvt => ?_
          · simp [Value.cells]
          · simp
          skip
          refine o_append_row (i := 1) (by exact rfl) (by exact rfl) (by exact rfl) (by exact rfl) (by exact .head _) (by exact rfl) (by simp [Value.cells, Value.oneCell']) ?_ fun vd hvd => ?_
          · omega
          repeat' first
            | refine k_then ?_ | refine c_region ?_ | refine s_nil ?_ | refine s_move (by exact rfl) (by exact rfl) ?_ | refine s_assign (by exact rfl) (by exact rfl) ?_ | refine s_add (by exact rfl) (by exact rfl) (by exact rfl) (by omega) ?_ | refine k_blk ?_
          refine c_round (u + 1, vd) [1, 1, 1, 1, 1] ?_ (by exact ⟨rfl, rfl, rfl, rfl, rfl, rfl, trivial⟩) (by dsimp only; omega) (by dsimp only; omega)
          dsimp only
          rw [hra]
          have e1 : rowHP vd 3 1 (row.length + 1) (nV row ++ [Value.int .i64 (u : Int)]) = rowHP vd 3 1 (row ++ [u]).length (nV (row ++ [u])) := by simp [nV]
          rw [← e1]
          rfl
        · have hrn := row_next (u := u) hlabu
          repeat' first
            | refine k_then ?_ | refine c_seq ?_ | refine c_region ?_ | refine s_nil ?_ | refine s_move (by exact rfl) (by exact rfl) ?_ | refine s_assign (by exact rfl) (by exact rfl) ?_ | refine s_fa (by exact rfl) (by exact rfl) ?_ | refine s_ld_box (by exact rfl) (by exact rfl) (by exact .tail _ (.tail _ (.tail _ (.tail _ (.head _))))) (by exact rfl) ?_ | refine s_lss (by exact rfl) (by exact rfl) (by exact rfl) ?_ | refine s_eql (by exact rfl) (by exact rfl) (by exact rfl) ?_ | refine s_add (by exact rfl) (by exact rfl) (by exact rfl) (by omega) ?_ | refine s_idx (by exact rfl) (by exact rfl) (by exact rfl) (by assumption) (by first | assumption | omega) ?_ | refine s_ld_row (by exact rfl) (by exact rfl) (by exact .tail _ (.tail _ (.tail _ (.head _)))) (by assumption) ?_ | refine c_block ?_ | refine c_skip ?_ | refine k_blk ?_ | (refine c_cond_p (by exact rfl) (fun h => ?_) (fun h => ?_) <;> try (exfalso; omega))
          refine c_round (u + 1, vc) [0, 0, 0, 0, 0] (by dsimp only; rw [hrn]; rfl) (by exact ⟨rfl, rfl, rfl, rfl, rfl, rfl, trivial⟩) (by dsimp only; omega) (by dsimp only; omega)
      · repeat' first
          | refine k_then ?_ | refine c_seq ?_ | refine c_region ?_ | refine s_nil ?_ | refine s_move (by exact rfl) (by exact rfl) ?_ | refine s_fa (by exact rfl) (by exact rfl) ?_ | refine s_ld_box (by exact rfl) (by exact rfl) (by exact .tail _ (.tail _ (.tail _ (.tail _ (.head _))))) (by exact rfl) ?_ | refine s_lss (by exact rfl) (by exact rfl) (by exact rfl) ?_ | refine c_exit ?_ | refine k_then_exit ?_ | refine k_blk_eq ?_ | (refine c_cond_p (by exact rfl) (fun h => ?_) (fun h => ?_) <;> try (exfalso; omega))
        obtain rfl : u = N := by omega
        refine know_row (v := vc) (.head _) fun hvc _ => ?_
        refine o_mk [vc] (by exact rfl) (by exact rfl) rfl ?_ ?_ (by simp) fun vt hvt => ?_
        · intro u hu
          obtain rfl : u = vc := by simpa using hu
          rw [← Array.length_toList, one_cells hvc.one]; rfl
        · simp
        rw [show ([vc].flatMap fun u => u.cells.toList) = [vc] from by simp [one_cells hvc.one]]
        skip
        refine o_append_row (i := 2) (by exact rfl) (by exact rfl) (by exact rfl) (by exact rfl) (by exact .head _) (by exact rfl) (by simp [hvc.one]) ?_ fun vo2 hvo2 => ?_
        · omega
        repeat' first
          | refine k_then ?_ | refine c_region ?_ | refine s_nil ?_ | refine s_move (by exact rfl) (by exact rfl) ?_ | refine s_assign (by exact rfl) (by exact rfl) ?_ | refine s_add (by exact rfl) (by exact rfl) (by exact rfl) (by omega) ?_ | refine k_blk ?_
        have e1 : rowHP vc 3 1 ((List.range u).filter fun x => lab x == i).length (nV ((List.range u).filter fun x => lab x == i)) = rowN vc ((List.range u).filter fun x => lab x == i) := rfl
        refine c_pick [1, 1, 1, 1, 1] (by exact rfl) ?_
        rw [e1]
        refine c_pushk 1 (by exact rfl) ?_
        refine c_round (i + 1, vo2, ho ++ [vc]) [0, 0, 0, 0] ?_ (by exact ⟨rfl, rfl, rfl, rfl, trivial⟩) ⟨by dsimp only; omega, by dsimp only; rw [hadd, List.length_append, List.length_append, hho]; rfl⟩ (by dsimp only; omega)
        dsimp only
        rw [hadd, kids_append hho, List.length_append]
        rfl
    · have hnx := compsI_next (N := N) hlab
      repeat' first
        | refine k_then ?_ | refine c_seq ?_ | refine c_region ?_ | refine s_nil ?_ | refine s_move (by exact rfl) (by exact rfl) ?_ | refine s_assign (by exact rfl) (by exact rfl) ?_ | refine s_fa (by exact rfl) (by exact rfl) ?_ | refine s_ld_box (by exact rfl) (by exact rfl) (by exact .tail _ (.tail _ (.tail _ (.head _)))) (by exact rfl) ?_ | refine s_lss (by exact rfl) (by exact rfl) (by exact rfl) ?_ | refine s_neq (by exact rfl) (by exact rfl) (by exact rfl) ?_ | refine s_add (by exact rfl) (by exact rfl) (by exact rfl) (by omega) ?_ | refine s_idx (by exact rfl) (by exact rfl) (by exact rfl) (by assumption) (by first | assumption | omega) ?_ | refine s_ld_row (by exact rfl) (by exact rfl) (by exact .tail _ (.tail _ (.head _))) (by assumption) ?_ | refine c_block ?_ | refine c_skip ?_ | refine c_exit ?_ | refine k_then_exit ?_ | refine k_blk_eq ?_ | (refine c_cond_p (by exact rfl) (fun h => ?_) (fun h => ?_) <;> try (exfalso; omega))
      refine c_round (i + 1, vo, ho) [0, 0, 0, 0] (by dsimp only; rw [hnx]; rfl) (by exact ⟨rfl, rfl, rfl, rfl, trivial⟩) ⟨by omega, by dsimp only; rw [hnx]; exact hho⟩ (by dsimp only; omega)
  · repeat' first
      | refine k_then ?_ | refine c_seq ?_ | refine c_region ?_ | refine s_nil ?_ | refine s_move (by exact rfl) (by exact rfl) ?_ | refine s_assign (by exact rfl) (by exact rfl) ?_ | refine s_fa (by exact rfl) (by exact rfl) ?_ | refine s_ld_box (by exact rfl) (by exact rfl) (by exact .tail _ (.tail _ (.tail _ (.head _)))) (by exact rfl) ?_ | refine s_lss (by exact rfl) (by exact rfl) (by exact rfl) ?_ | refine c_exit ?_ | refine c_ret ?_ | refine k_then_exit ?_ | refine k_blk_eq ?_ | (refine c_cond_p (by exact rfl) (fun h => ?_) (fun h => ?_) <;> try (exfalso; omega))
    obtain rfl : i = N := by omega
    refine ret1 [0, 0] rfl rfl rfl ⟨ho, hho, rfl⟩
end Go.Proofs.YtpajjnkmaebhcabGreat
end
section
set_option linter.unusedVariables false
namespace Fil
/-- as the document says it: as many, and each neighbour among them -/
theorem rotB_iff {n : Int} {es : List E} {ls : List (List Int)} (hR : RightG n es) (v : Nat) : rotB n es ls v = true ↔ (ls.getD v []).length = (nearS (tn es) v).length ∧ ∀ u ∈ nearS (tn es) v, (u : Int) ∈ ls.getD v [] := by
  have hnd : (nearS (tn es) v).Nodup := (List.mergeSort_perm _ _).nodup_iff.2 (nb_nd hR.good (tn_nodup hR) v)
  have hnd2 : ((nearS (tn es) v).map fun (k : Nat) => (k : Int)).Nodup := by
    rw [List.Nodup, List.pairwise_map]
    exact hnd.imp fun h e => h (by omega)
  rw [rotB, decide_eq_true_iff]
  generalize ls.getD v [] = l
  constructor
  · intro h
    have hp := List.mergeSort_perm l fun x y => decide (x ≤ y)
    rw [h] at hp
    refine ⟨by simpa using hp.length_eq.symm, fun u hu => hp.mem_iff.1 (List.mem_map.2 ⟨u, hu, rfl⟩)⟩
  · rintro ⟨h1, h2⟩
    have hp : ((nearS (tn es) v).map fun (k : Nat) => (k : Int)).Perm l := perm_of_sub hnd2 (fun a ha => by
      obtain ⟨u, hu, rfl⟩ := List.mem_map.1 ha
      exact h2 u hu) (by simp [h1])
    have hq := (List.mergeSort_perm l fun x y => decide (x ≤ y)).trans hp.symm
    have s1 : (l.mergeSort fun x y => decide (x ≤ y)).Pairwise fun a b => a ≤ b :=
      (List.pairwise_mergeSort (fun a b c h1 h2 => by simp at *; omega) (fun a b => by simp; omega) l).imp fun h => by simpa using h
    have s2 : ((nearS (tn es) v).map fun (k : Nat) => (k : Int)).Pairwise fun a b => a ≤ b := by
      rw [List.pairwise_map]
      exact (List.pairwise_mergeSort (fun a b c h1 h2 => by simp at *; omega) (fun a b => by simp; omega) (nb (tn es) v)).imp fun h => by simp at h; omega
    exact hq.eq_of_pairwise (fun a b _ _ h1 h2 => by omega) s1 s2
end Fil
namespace Go.Proofs.YtpajjnkmaebhcabGreat
open Go.RowKit Go.Sl Fil
set_option maxRecDepth 100000
set_option maxHeartbeats 8000000
set_option linter.unusedVariables false
set_option linter.unusedSimpArgs false
attribute [local irreducible] Code.wp wpList bodyPost wpQuiet Exit.then Exit.inBlock Post wpAnyH wpOp
theorem refRotRight_ok (n : Int) (v : Value) (es : List E) (vr : Value) (hr0 : List Value) (ls : List (List Int)) (w : World) (hs : Shp v es.length) (hr : RO w No v (esV es)) (hm : es.length < 4611686018427387904) (hR : ROsI w No vr hr0 ls) :
    Calls Tryz.prog 37 #[.agg #[.int .i64 n, v], vr] w (Post w No (Just (.int .i64 (rotK n es ls)))) := by
  have hsr := hR.shp
  have hrr := hR.ro
  have hls := hsr.1
  simp only [maxLen] at hls
  refine enter0 (vs := [_, _]) Tryz.func37 rfl Tryz.ntmps37 rfl ?_
  repeat' first
    | refine k_then ?_ | refine c_seq ?_ | refine c_region ?_ | refine s_nil ?_ | refine s_assign (by exact rfl) (by exact rfl) ?_ | refine s_ldk_box (by exact rfl) (by exact rfl) (by exact .head _) (by exact rfl) (by exact rfl) ?_ | refine o_box (by exact rfl) (by exact rfl) (fun b => ?_)
  refine s_call (by exact rfl) (by exact rfl) (fun w h => refRight_ok n v es w hs (ro_old h hr) hm) ?_
  repeat' first
    | refine k_then ?_ | refine c_seq ?_ | refine c_region ?_ | refine s_nil ?_ | refine s_move (by exact rfl) (by exact rfl) ?_ | refine s_assign (by exact rfl) (by exact rfl) ?_ | refine s_fa (by exact rfl) (by exact rfl) ?_ | refine s_ld_box (by exact rfl) (by exact rfl) (by exact .head _) (by exact rfl) ?_ | refine s_neq (by exact rfl) (by exact rfl) (by exact rfl) ?_ | refine s_len (by exact rfl) (by exact rfl) (by assumption) ?_ | refine s_ldk_box (by exact rfl) (by exact rfl) (by exact .head _) (by exact rfl) (by exact rfl) ?_ | refine c_skip ?_ | refine c_ret ?_ | refine k_then_ret ?_ | (refine c_cond_p (by exact rfl) (fun h => ?_) (fun h => ?_) <;> try (exfalso; omega))
  · refine ret1 [] rfl rfl rfl ⟨?_, rfl⟩
    rw [rotK, if_pos h]
  · rename_i h0
    have h1 := h
    refine ret1 [] rfl rfl rfl ⟨?_, rfl⟩
    rw [rotK, if_neg h0, if_pos h1]
  rename_i h0
  have h1 := h
  have hRG := right_iff.1 (Classical.byContradiction h0)
  have hln : ls.length = n.toNat := by have := hRG.lo; omega
  refine o_call (by exact rfl) (by exact rfl) (fun w h => refNear_ok n v es w hs (ro_old h hr) hRG) ?_
  rintro vn _ ⟨hn, hnl, rfl⟩
  refine know_row (v := vn) (.head _) fun hvn _ => ?_
  repeat' first
    | refine k_then ?_ | refine c_seq ?_ | refine c_region ?_ | refine s_nil ?_ | refine s_assign (by exact rfl) (by exact rfl) ?_ | refine c_block ?_
  have hlo := hRG.lo
  have hhi := hRG.hi
  have hAl : ∀ x, (nearS (tn es) x).length ≤ 4194304 := fun x => by
    have h1 := nb_length (tn es) x
    have h2 := hRG.many
    simp only [nearS, List.length_mergeSort]
    simp only [tn, List.length_map] at h1
    simp only [tn]
    omega
  have hrotK : rotK n es ls = if (List.range n.toNat).all (rotB n es ls) then 0 else 12 := by rw [rotK, if_neg h0, if_neg h1]
  rw [hrotK]
  have hBd : ∀ x, rotB n es ls x = true ↔ (ls.getD x []).length = (nearS (tn es) x).length ∧ ∀ u ∈ nearS (tn es) x, (u : Int) ∈ ls.getD x [] := rotB_iff hRG
  generalize rotB n es ls = B at *
  generalize nearS (tn es) = A at *
  clear hrotK h1 h h0
  generalize hN : n.toNat = N at *
  have hnN : n = (N : Int) := by omega
  subst hnN
  have hbad : ∀ k, k < N → ¬ B k = true → (if (List.range N).all B then (0 : Int) else 12) = 12 := fun k hk hb => by
    rw [if_neg]
    intro hall
    exact hb (List.all_eq_true.1 hall k (List.mem_range.2 hk))
  refine c_loop (fun k : Nat => k ≤ N ∧ ∀ u, u < k → B u = true) (fun k => [(1, vr), (2, .pointer (some ⟨b, 0, none⟩)), (5, vn), (6, .int .i64 (k : Int))]) (fun _ => [rowHP vn 28 1 N hn, starHP (kids rowN hn ((List.range N).map A)), boxHP b 24 (Value.agg #[.int .i64 (N : Int), v]).cells.toList]) (fun k => N - k) 0 [0, 0, 0] ⟨Nat.zero_le _, by omega⟩ rfl ⟨rfl, rfl, rfl, rfl, trivial⟩ ?_
  rintro k ⟨hk, hq⟩
  by_cases hlt : k < N
  · obtain ⟨hx, hhx⟩ : ∃ x, hr0[k]? = some x := ⟨_, List.getElem?_eq_getElem (by have := hR.len; omega)⟩
    obtain ⟨l, hl⟩ : ∃ l, ls[k]? = some l := ⟨_, List.getElem?_eq_getElem (by omega)⟩
    obtain ⟨hsx, hrx⟩ := hR.kid k hx l hhx hl
    obtain ⟨hy, hhy⟩ : ∃ x, hn[k]? = some x := ⟨_, List.getElem?_eq_getElem (by omega)⟩
    have hAk : ((List.range N).map A)[k]? = some (A k) := by simp [hlt]
    have hgd : ls.getD k [] = l := by rw [List.getD_eq_getElem?_getD, hl]; rfl
    have h1' : hr0[k * 1]? = some hx := by rw [Nat.mul_one]; exact hhx
    have h2' : hn[k * 1]? = some hy := by rw [Nat.mul_one]; exact hhy
    have hAlk := hAl k
    have hros : ∀ w1, St w No [rowHP vn 28 1 N hn, starHP (kids rowN hn ((List.range N).map A)), boxHP b 24 (Value.agg #[.int .i64 (N : Int), v]).cells.toList] w1 → ROs w1 No vn hn ((List.range N).map A) := fun w1 h => ros_own h (.head _) (by simp) (.tail _ (.head _))
    have hkk : rowHP hy 3 1 (A k).length (nV (A k)) ∈ kids rowN hn ((List.range N).map A) := kids_mem (f := rowN) hhy hAk
    repeat' first
      | refine k_then ?_ | refine c_seq ?_ | refine c_region ?_ | refine s_nil ?_ | refine s_move (by exact rfl) (by exact rfl) ?_ | refine s_fa (by exact rfl) (by exact rfl) ?_ | refine s_ld_box (by exact rfl) (by exact rfl) (by exact .tail _ (.tail _ (.head _))) (by exact rfl) ?_ | refine s_lss (by exact rfl) (by exact rfl) (by exact rfl) ?_ | refine c_block ?_ | refine c_skip ?_ | (refine c_cond_p (by exact rfl) (fun h => ?_) (fun h => ?_) <;> try (exfalso; omega))
    refine know_kid (.tail _ (.head _)) hkk fun hsy _ => ?_
    refine p_begin0 [(0, true), (1, true), (2, true), (3, true), (4, true), (5, true), (6, true), (7, true), (8, true), (9, true), (10, true)] (by kernel_rfl) ?_
    repeat' first
      | refine p_nil ?_
      | (refine p_at (by exact rfl) ?_
         first
          | refine t_move (by exact rfl) (by exact rfl) (by exact fun _ h => h) ?_ | refine t_neq (by exact rfl) (by exact rfl) (by exact rfl) (by exact fun _ h => h) ?_ | refine t_len (by exact rfl) (by exact rfl) (by assumption) (by exact fun _ h => h) ?_ | refine t_idx (by exact rfl) (by exact rfl) (by exact rfl) (by assumption) (by first | assumption | omega) (by exact fun _ h => h) ?_ | refine t_ld_ro (by exact rfl) (by exact rfl) (by assumption) (by assumption) (by exact fun _ h => h) ?_ | refine t_ld_row (by exact rfl) (by exact rfl) (by exact .head _) (by assumption) (by exact fun _ h => h) ?_)
    have hBk := hBd k
    rw [hgd] at hBk
    repeat' first
      | refine k_then ?_ | refine c_seq ?_ | refine c_region ?_ | refine s_nil ?_ | refine s_assign (by exact rfl) (by exact rfl) ?_ | refine c_block ?_ | refine c_skip ?_ | refine c_ret ?_ | refine k_then_ret ?_ | refine k_blk_ret ?_ | (refine c_cond_p (by exact rfl) (fun h => ?_) (fun h => ?_) <;> try (exfalso; omega))
    · refine ret1 [] rfl rfl rfl ⟨?_, rfl⟩
      rw [hbad k hlt fun hb => by have := (hBk.1 hb).1; omega]
    refine c_loop (fun j : Nat => j ≤ (A k).length ∧ ∀ u ∈ (A k).take j, (u : Int) ∈ l) (fun j => [(1, vr), (2, .pointer (some ⟨b, 0, none⟩)), (5, vn), (6, .int .i64 (k : Int)), (7, .int .i64 (j : Int))]) (fun _ => [rowHP vn 28 1 N hn, starHP (kids rowN hn ((List.range N).map A)), boxHP b 24 (Value.agg #[.int .i64 (N : Int), v]).cells.toList]) (fun j => (A k).length - j) 0 [0, 0, 0] ⟨Nat.zero_le _, by simp⟩ rfl ⟨rfl, rfl, rfl, rfl, rfl, trivial⟩ ?_
    rintro j ⟨hj, hjq⟩
    by_cases hjl : j < (A k).length
    · have h3' := nV_get hjl
      repeat' first
        | refine k_then ?_ | refine c_seq ?_ | refine c_region ?_ | refine s_nil ?_ | refine s_move (by exact rfl) (by exact rfl) ?_ | refine s_lss (by exact rfl) (by exact rfl) (by exact rfl) ?_ | refine s_len (by exact rfl) (by exact rfl) (by assumption) ?_ | refine s_idx (by exact rfl) (by exact rfl) (by exact rfl) (by assumption) (by first | assumption | omega) ?_ | refine s_ld_row (by exact rfl) (by exact rfl) (by exact .head _) (by assumption) ?_ | refine c_block ?_ | refine c_skip ?_ | (refine c_cond_p (by exact rfl) (fun h => ?_) (fun h => ?_) <;> try (exfalso; omega))
      refine p_begin0 [(0, true), (1, true), (2, true), (3, true), (4, true), (5, true), (6, true), (7, true), (8, true), (9, true), (10, true), (11, false), (12, true)] (by kernel_rfl) ?_
      repeat' first
        | (refine p_at (by exact rfl) ?_
           first
            | refine t_move (by exact rfl) (by exact rfl) (by exact fun _ h => h) ?_ | refine t_idx (by exact rfl) (by exact rfl) (by exact rfl) (by assumption) (by first | assumption | omega) (by exact fun _ h => h) ?_ | refine t_ld_ro (by exact rfl) (by exact rfl) (by assumption) (by assumption) (by exact fun _ h => h) ?_ | refine t_ld_row (by exact rfl) (by exact rfl) (by exact .head _) (by assumption) (by exact fun _ h => h) ?_ | refine t_ld_kid (by exact rfl) (by exact rfl) (by assumption) (by exact .tail _ (.head _)) (by assumption) (by exact fun _ h => h) ?_)
      refine p_call (gd := none) (by exact rfl) rfl (by exact rfl) (fun w h => Has_ok hx l ((A k).getD j 0 : Nat) w hsx (ro_old h hrx)) (by exact fun _ h => h) ?_
      have hgj : (A k)[j]? = some ((A k).getD j 0) := by rw [List.getD_eq_getElem?_getD, List.getElem?_eq_getElem hjl]; rfl
      by_cases hin : ((A k).getD j 0 : Int) ∈ l
      · rw [decide_eq_true hin]
        repeat' first
          | refine p_nil ?_
          | (refine p_at (by exact rfl) ?_
             first
              | refine t_not (by exact rfl) (by exact rfl) (by exact fun _ h => h) ?_)
        repeat' first
          | refine k_then ?_ | refine c_region ?_ | refine s_nil ?_ | refine s_move (by exact rfl) (by exact rfl) ?_ | refine s_assign (by exact rfl) (by exact rfl) ?_ | refine s_add (by exact rfl) (by exact rfl) (by exact rfl) (by omega) ?_ | refine c_skip ?_ | refine k_blk ?_ | refine c_cond_f (by exact rfl) ?_
        refine c_round (j + 1) [0, 0, 0] (by exact rfl) (by exact ⟨rfl, rfl, rfl, rfl, rfl, trivial⟩) ⟨by omega, fun u hu => ?_⟩ (by omega)
        rw [List.take_add_one, hgj] at hu
        rcases List.mem_append.1 hu with hu | hu
        · exact hjq u hu
        · obtain rfl : u = (A k).getD j 0 := by simpa using hu
          exact hin
      · rw [decide_eq_false hin]
        repeat' first
          | refine p_nil ?_
          | (refine p_at (by exact rfl) ?_
             first
              | refine t_not (by exact rfl) (by exact rfl) (by exact fun _ h => h) ?_)
        repeat' first
          | refine k_then ?_ | refine c_seq ?_ | refine c_region ?_ | refine s_nil ?_ | refine s_assign (by exact rfl) (by exact rfl) ?_ | refine c_ret ?_ | refine k_then_ret ?_ | refine k_blk_ret ?_ | refine c_cond_t (by exact rfl) ?_
        refine ret1 [] rfl rfl rfl ⟨?_, rfl⟩
        rw [hbad k hlt fun hb => hin ((hBk.1 hb).2 _ (List.mem_of_getElem? hgj))]
    · repeat' first
        | refine k_then ?_ | refine c_seq ?_ | refine c_region ?_ | refine s_nil ?_ | refine s_move (by exact rfl) (by exact rfl) ?_ | refine s_assign (by exact rfl) (by exact rfl) ?_ | refine s_lss (by exact rfl) (by exact rfl) (by exact rfl) ?_ | refine s_add (by exact rfl) (by exact rfl) (by exact rfl) (by omega) ?_ | refine s_len (by exact rfl) (by exact rfl) (by assumption) ?_ | refine s_idx (by exact rfl) (by exact rfl) (by exact rfl) (by assumption) (by first | assumption | omega) ?_ | refine s_ld_row (by exact rfl) (by exact rfl) (by exact .head _) (by assumption) ?_ | refine c_exit ?_ | refine k_then_exit ?_ | refine k_blk ?_ | refine k_blk_eq ?_ | (refine c_cond_p (by exact rfl) (fun h => ?_) (fun h => ?_) <;> try (exfalso; omega))
      rw [List.take_of_length_le (by omega)] at hjq
      refine c_round (k + 1) [0, 0, 0] (by exact rfl) (by exact ⟨rfl, rfl, rfl, rfl, trivial⟩) ⟨by omega, fun u hu => ?_⟩ (by omega)
      by_cases e : u = k
      · rw [e]; exact hBk.2 ⟨by omega, hjq⟩
      · exact hq u (by omega)
  · repeat' first
      | refine k_then ?_ | refine c_seq ?_ | refine c_region ?_ | refine s_nil ?_ | refine s_move (by exact rfl) (by exact rfl) ?_ | refine s_assign (by exact rfl) (by exact rfl) ?_ | refine s_fa (by exact rfl) (by exact rfl) ?_ | refine s_ld_box (by exact rfl) (by exact rfl) (by exact .tail _ (.tail _ (.head _))) (by exact rfl) ?_ | refine s_lss (by exact rfl) (by exact rfl) (by exact rfl) ?_ | refine c_exit ?_ | refine c_ret ?_ | refine k_then_exit ?_ | refine k_blk_eq ?_ | (refine c_cond_p (by exact rfl) (fun h => ?_) (fun h => ?_) <;> try (exfalso; omega))
    refine ret1 [] rfl rfl rfl ⟨?_, rfl⟩
    rw [if_pos]
    rw [List.all_eq_true]
    intro u hu
    exact hq u (by have := List.mem_range.1 hu; omega)
end Go.Proofs.YtpajjnkmaebhcabGreat
end
section
set_option linter.unusedVariables false
namespace Go.Proofs.YtpajjnkmaebhcabGreat
open Go Go.RowKit Go.Sl Fil
set_option maxRecDepth 100000
set_option maxHeartbeats 8000000
set_option linter.unusedVariables false
set_option linter.unusedSimpArgs false
attribute [local irreducible] Code.wp wpList bodyPost wpQuiet Exit.then Exit.inBlock Post wpAnyH wpOp
theorem HasI_ok (v : Value) (l : List Nat) (i : Int) (w : World) (hi : i = (i.toNat : Int)) (hs : Shp v l.length) (hr : RO w No v (nV l)) :
    Calls Tryz.prog 47 #[v, .int .i64 i] w (Post w No (Just (.bool (decide (i.toNat ∈ l))))) := by
  have h := HasN_ok v l i.toNat w hs hr
  rwa [← hi] at h
theorem refEuler_ok (n : Int) (v : Value) (es : List E) (vr : Value) (hr0 : List Value) (R : List (List Nat)) (o lab : Nat → Nat) (w : World) (hs : Shp v es.length) (hr : RO w No v (esV es)) (hG : RightG n es) (hR : ROs w No vr hr0 R) (hRot : RotL n.toNat (tn es) R) (hL : Lev n.toNat (nb (tn es)) o lab) :
    Calls Tryz.prog 38 #[.agg #[.int .i64 n, v], vr] w (Post w No fun r L' => L' = [rowHP r 3 1 (eulerL n.toNat (tn es) lab (facesR n.toNat (tn es) R)).length (iV (eulerL n.toNat (tn es) lab (facesR n.toNat (tn es) R)))]) := by
  have hsr := hR.shp
  have hrr := hR.ro
  have hlo := hG.lo
  have hhi := hG.hi
  have hmany := hG.many
  refine enter0 (vs := [_, _]) Tryz.func38 rfl Tryz.ntmps38 rfl ?_
  repeat' first
    | refine k_then ?_ | refine c_seq ?_ | refine c_region ?_ | refine s_nil ?_ | refine s_assign (by exact rfl) (by exact rfl) ?_ | refine s_ldk_box (by exact rfl) (by exact rfl) (by exact .head _) (by exact rfl) (by exact rfl) ?_ | refine o_box (by exact rfl) (by exact rfl) (fun b => ?_)
  revert b; intro bg
  refine o_call (by exact rfl) (by exact rfl) (fun w h => refComps_ok n v es o lab w hs (ro_old h hr) hG hL) ?_
  rintro vc _ ⟨hc, hcl, rfl⟩
  refine know_row (v := vc) (.head _) fun hvc _ => ?_
  repeat' first
    | refine k_then ?_ | refine c_seq ?_ | refine c_region ?_ | refine s_nil ?_ | refine s_move (by exact rfl) (by exact rfl) ?_ | refine s_assign (by exact rfl) (by exact rfl) ?_ | refine s_ldk_box (by exact rfl) (by exact rfl) (by exact .tail _ (.tail _ (.head _))) (by exact rfl) (by exact rfl) ?_
  refine o_call (by exact rfl) (by exact rfl) (fun w h => refFaces_ok n v es vr hr0 R w hs (ro_old h hr) hG (ros_old h hR) hRot) ?_
  rintro vf _ ⟨hf, hfl, rfl⟩
  refine know_row (v := vf) (.head _) fun hvf _ => ?_
  have hcN : (compsS n.toNat lab).length ≤ n.toNat := compsI_length _ _ lab
  have hdec := facesR_dec hG hRot
  have hFne : ∀ f ∈ facesR n.toNat (tn es) R, ∃ d t, f = d :: t ∧ d.1 < n.toNat := fun f hf => by
    cases f with
    | nil => exact absurd rfl (hdec.cy _ hf).1
    | cons d t => exact ⟨d, t, rfl, (dart_lt hG (hdec.perm.mem_iff.1 (List.mem_flatten.2 ⟨_, hf, .head _⟩))).1⟩
  have hFl : (facesR n.toNat (tn es) R).length ≤ 2 * es.length := by
    have h1 := flat_le (C := facesR n.toNat (tn es) R) fun f hf => (hdec.cy f hf).1
    have h2 := hdec.perm.length_eq
    rw [dartsAll_length hG] at h2
    omega
  have hcl2 : ∀ c ∈ compsS n.toNat lab, c.length ≤ n.toNat := fun c hc => by
    obtain ⟨r, h1, h2, rfl⟩ := comp_mem hc
    have := List.length_filter_le (fun u => lab u == r) (List.range n.toNat); simpa using this
  have hK : ∀ c ∈ compsS n.toNat lab, eulerK (tn es) (facesR n.toNat (tn es) R) c = (c.length : Int) - (((tn es).filter fun e => decide (e.1 ∈ c)).length : Int) + (((facesR n.toNat (tn es) R).filter fun f => decide ((f.headD (0, 0)).1 ∈ c)).length : Int) + if ((tn es).filter fun e => decide (e.1 ∈ c)).length = 0 then 1 else 0 := fun c hc => by
    rw [eulerK]
    by_cases h1 : c.length = 1
    · rw [if_pos h1, (single hG hRot hL hc h1).2, h1]
      simp; omega
    · rw [if_neg h1, if_neg fun h => edge_of hG hRot hL hc h1 (List.eq_nil_of_length_eq_zero h)]
      omega
  have hfe : ∀ (c : List Nat) (k : Nat), ((((tn es).take k).filter fun e => decide (e.1 ∈ c)).length) ≤ k := fun c k => by
    have := List.length_filter_le (fun e : Nat × Nat => decide (e.1 ∈ c)) ((tn es).take k)
    rw [List.length_take] at this; omega
  have hff : ∀ (c : List Nat) (k : Nat), ((((facesR n.toNat (tn es) R).take k).filter fun f => decide ((f.headD (0, 0)).1 ∈ c)).length) ≤ k := fun c k => by
    have := List.length_filter_le (fun f : List (Nat × Nat) => decide ((f.headD (0, 0)).1 ∈ c)) ((facesR n.toNat (tn es) R).take k)
    rw [List.length_take] at this; omega
  unfold eulerL
  generalize facesR n.toNat (tn es) R = Fs at *
  generalize compsS n.toNat lab = cs at *
  rw [List.length_map]
  refine c_nil 3 1 ?_
  repeat' first
    | refine k_then ?_ | refine c_seq ?_ | refine c_region ?_ | refine s_nil ?_ | refine s_assign (by exact rfl) (by exact rfl) ?_ | refine c_block ?_
  refine c_loop (fun x : Nat × Value => x.1 ≤ cs.length) (fun x => [(1, vr), (2, .pointer (some ⟨bg, 0, none⟩)), (5, vc), (6, vf), (7, x.2), (8, .int .i64 (x.1 : Int))])
    (fun x => [rowHP x.2 3 1 x.1 (iV ((cs.take x.1).map (eulerK (tn es) Fs))), rowHP vf 101 1 Fs.length hf, starHP (kids rowD hf Fs), rowHP vc 28 1 cs.length hc, starHP (kids rowN hc cs), boxHP bg 24 [.int .i64 n, v]])
    (fun x => cs.length - x.1) (0, .slice none 0 0) [0, 0, 0, 0, 0, 0] (Nat.zero_le _) (by exact rfl) ⟨rfl, rfl, rfl, rfl, rfl, rfl, trivial⟩ ?_
  rintro ⟨i, vo⟩ hi
  dsimp only at hi ⊢
  by_cases hil : i < cs.length
  · obtain ⟨c, hci⟩ : ∃ c, cs[i]? = some c := ⟨_, List.getElem?_eq_getElem hil⟩
    obtain ⟨hd, hhd⟩ : ∃ hd, hc[i]? = some hd := ⟨_, List.getElem?_eq_getElem (by omega)⟩
    have hhd1 : hc[i * 1]? = some hd := by rw [Nat.mul_one]; exact hhd
    have hcm := List.mem_of_getElem? hci
    have hcl3 := hcl2 c hcm
    have hKc := hK c hcm
    have hfec := hfe c
    have hffc := hff c
    have hkd : rowHP hd 3 1 c.length (nV c) ∈ kids rowN hc cs := kids_mem (f := rowN) hhd hci
    repeat' first
      | refine k_then ?_ | refine c_seq ?_ | refine c_region ?_ | refine s_nil ?_ | refine s_move (by exact rfl) (by exact rfl) ?_ | refine s_lss (by exact rfl) (by exact rfl) (by exact rfl) ?_ | refine s_len (by exact rfl) (by exact rfl) (by assumption) ?_ | refine s_idx (by exact rfl) (by exact rfl) (by exact rfl) (by assumption) (by first | assumption | omega) ?_ | refine s_ld_row (by exact rfl) (by exact rfl) (by exact .tail _ (.tail _ (.tail _ (.head _)))) (by assumption) ?_ | refine c_block ?_ | refine c_skip ?_ | (refine c_cond_p (by exact rfl) (fun h => ?_) (fun h => ?_) <;> try (exfalso; omega))
    refine know_kid (by exact .tail _ (.tail _ (.tail _ (.tail _ (.head _))))) hkd fun hsd _ => ?_
    repeat' first
      | refine k_then ?_ | refine c_seq ?_ | refine c_region ?_ | refine s_nil ?_ | refine s_assign (by exact rfl) (by exact rfl) ?_ | refine s_len (by exact rfl) (by exact rfl) (by assumption) ?_ | refine c_block ?_
    refine c_loop (fun k : Nat => k ≤ es.length) (fun k => [(1, vr), (2, .pointer (some ⟨bg, 0, none⟩)), (5, vc), (6, vf), (7, vo), (8, .int .i64 (i : Int)), (9, .int .i64 (c.length : Int)), (10, .int .i64 (((((tn es).take k).filter fun e => decide (e.1 ∈ c)).length : Nat) : Int)), (11, .int .i64 (k : Int))])
      (fun k => [rowHP vo 3 1 i (iV ((cs.take i).map (eulerK (tn es) Fs))), rowHP vf 101 1 Fs.length hf, starHP (kids rowD hf Fs), rowHP vc 28 1 cs.length hc, starHP (kids rowN hc cs), boxHP bg 24 [.int .i64 n, v]])
      (fun k => es.length - k) 0 [0, 0, 0, 0, 0, 0] (Nat.zero_le _) (by exact rfl) ⟨rfl, rfl, rfl, rfl, rfl, rfl, rfl, rfl, rfl, trivial⟩ ?_
    rintro k hk
    have hfk := hfec k
    by_cases hkl : k < es.length
    · obtain ⟨e, he⟩ : ∃ e, es[k]? = some e := ⟨_, List.getElem?_eq_getElem hkl⟩
      obtain ⟨o1, o2, o3, o4, _⟩ := hG.ok e (List.mem_of_getElem? he)
      have het : (tn es)[k]? = some (e.1.toNat, e.2.1.toNat) := by rw [tn, List.getElem?_map, he]; rfl
      have hcnt := fcount (fun e : Nat × Nat => decide (e.1 ∈ c)) het
      have hE0 : (esV es)[k * 3 + 0]? = some (.int .i64 e.1) := (esV_get he).1
      repeat' first
        | refine k_then ?_ | refine c_seq ?_ | refine c_region ?_ | refine s_nil ?_ | refine s_move (by exact rfl) (by exact rfl) ?_ | refine s_fa (by exact rfl) (by exact rfl) ?_ | refine s_ld_box (by exact rfl) (by exact rfl) (by exact .tail _ (.tail _ (.tail _ (.tail _ (.tail _ (.head _)))))) (by exact rfl) ?_ | refine s_lss (by exact rfl) (by exact rfl) (by exact rfl) ?_ | refine s_len (by exact rfl) (by exact rfl) (by assumption) ?_ | refine c_block ?_ | refine c_skip ?_ | (refine c_cond_p (by exact rfl) (fun h => ?_) (fun h => ?_) <;> try (exfalso; omega))
      refine p_begin0 [(0, true), (1, true), (2, true), (3, true), (4, true), (5, true), (6, true), (7, true), (8, true), (9, true), (10, false)] (by kernel_rfl) ?_
      repeat' first
        | (refine p_at (by exact rfl) ?_
           first
            | refine t_move (by exact rfl) (by exact rfl) (by exact fun _ h => h) ?_ | refine t_fa (by exact rfl) (by exact rfl) (by exact fun _ h => h) ?_ | refine t_ld_box (by exact rfl) (by exact rfl) (by exact .tail _ (.tail _ (.tail _ (.tail _ (.tail _ (.head _)))))) (by exact rfl) (by exact fun _ h => h) ?_ | refine t_idx (by exact rfl) (by exact rfl) (by exact rfl) (by assumption) (by first | assumption | omega) (by exact fun _ h => h) ?_ | refine t_fap (by exact rfl) (by exact rfl) (by assumption) (by omega) (by exact fun _ h => h) ?_ | refine t_ld_ro (by exact rfl) (by exact rfl) (by assumption) (by assumption) (by exact fun _ h => h) ?_ | refine t_ld_row (by exact rfl) (by exact rfl) (by exact .tail _ (.tail _ (.tail _ (.head _)))) (by assumption) (by exact fun _ h => h) ?_)
      refine p_call (gd := none) (by exact rfl) rfl (by exact rfl) (fun w h => HasI_ok hd c e.1 w (by omega) hsd (ro_kid h (by exact .tail _ (.tail _ (.tail _ (.tail _ (.head _))))) hkd)) (by exact fun _ h => h) ?_
      by_cases hin : e.1.toNat ∈ c
      · rw [decide_eq_true hin]
        rw [if_pos (decide_eq_true hin)] at hcnt
        have hc1 : (((((tn es).take (k + 1)).filter fun e => decide (e.1 ∈ c)).length : Nat) : Int) = (((((tn es).take k).filter fun e => decide (e.1 ∈ c)).length : Nat) : Int) + 1 := by rw [hcnt]; rfl
        repeat' first
          | refine p_nil ?_
        repeat' first
          | refine k_then ?_ | refine c_region ?_ | refine s_nil ?_ | refine s_move (by exact rfl) (by exact rfl) ?_ | refine s_assign (by exact rfl) (by exact rfl) ?_ | refine s_add (by exact rfl) (by exact rfl) (by exact rfl) (by omega) ?_ | refine k_blk ?_ | refine c_cond_t (by exact rfl) ?_
        refine c_round (k + 1) [0, 0, 0, 0, 0, 0] (by exact rfl) (by rw [hc1]; exact ⟨rfl, rfl, rfl, rfl, rfl, rfl, rfl, rfl, rfl, trivial⟩) (by omega) (by omega)
      · rw [decide_eq_false hin]
        rw [if_neg (by simpa using hin)] at hcnt
        have hc1 : ((((tn es).take (k + 1)).filter fun e => decide (e.1 ∈ c)).length) = ((((tn es).take k).filter fun e => decide (e.1 ∈ c)).length) := hcnt
        repeat' first
          | refine p_nil ?_
        repeat' first
          | refine k_then ?_ | refine c_region ?_ | refine s_nil ?_ | refine s_move (by exact rfl) (by exact rfl) ?_ | refine s_assign (by exact rfl) (by exact rfl) ?_ | refine s_add (by exact rfl) (by exact rfl) (by exact rfl) (by omega) ?_ | refine c_skip ?_ | refine k_blk ?_ | refine c_cond_f (by exact rfl) ?_
        refine c_round (k + 1) [0, 0, 0, 0, 0, 0] (by exact rfl) (by rw [hc1]; exact ⟨rfl, rfl, rfl, rfl, rfl, rfl, rfl, rfl, rfl, trivial⟩) (by omega) (by omega)
    · have hkk : k = (tn es).length := by rw [tn_len]; omega
      rw [hkk, List.take_length] at hfk ⊢
      generalize hce : ((tn es).filter fun e => decide (e.1 ∈ c)).length = ce at *
      rw [tn_len] at hfk
      repeat' first
        | refine k_then ?_ | refine c_seq ?_ | refine c_region ?_ | refine s_nil ?_ | refine s_move (by exact rfl) (by exact rfl) ?_ | refine s_assign (by exact rfl) (by exact rfl) ?_ | refine s_fa (by exact rfl) (by exact rfl) ?_ | refine s_ld_box (by exact rfl) (by exact rfl) (by exact .tail _ (.tail _ (.tail _ (.tail _ (.tail _ (.head _)))))) (by exact rfl) ?_ | refine s_lss (by exact rfl) (by exact rfl) (by exact rfl) ?_ | refine s_sub (by exact rfl) (by exact rfl) (by exact rfl) (by omega) ?_ | refine s_len (by exact rfl) (by exact rfl) (by assumption) ?_ | refine c_block ?_ | refine c_exit ?_ | refine k_then_exit ?_ | refine k_blk_eq ?_ | (refine c_cond_p (by exact rfl) (fun h => ?_) (fun h => ?_) <;> try (exfalso; omega))
      refine c_loop (fun j : Nat => j ≤ Fs.length) (fun j => [(1, vr), (2, .pointer (some ⟨bg, 0, none⟩)), (5, vc), (6, vf), (7, vo), (8, .int .i64 (i : Int)), (9, .int .i64 ((c.length : Int) - (ce : Int) + ((((Fs.take j).filter fun f => decide ((f.headD (0, 0)).1 ∈ c)).length : Nat) : Int))), (10, .int .i64 (ce : Int)), (12, .int .i64 (j : Int))])
        (fun j => [rowHP vo 3 1 i (iV ((cs.take i).map (eulerK (tn es) Fs))), rowHP vf 101 1 Fs.length hf, starHP (kids rowD hf Fs), rowHP vc 28 1 cs.length hc, starHP (kids rowN hc cs), boxHP bg 24 [.int .i64 n, v]])
        (fun j => Fs.length - j) 0 [0, 0, 0, 0, 0, 0] (Nat.zero_le _) (by exact rfl) (by simp only [List.take_zero, List.filter_nil, List.length_nil, Int.natCast_zero, Int.add_zero]; exact ⟨rfl, rfl, rfl, rfl, rfl, rfl, rfl, rfl, rfl, trivial⟩) ?_
      rintro j hj
      have hfj := hffc j
      by_cases hjl : j < Fs.length
      · obtain ⟨f, hf1⟩ : ∃ f, Fs[j]? = some f := ⟨_, List.getElem?_eq_getElem hjl⟩
        obtain ⟨hd2, hhd2⟩ : ∃ hd, hf[j]? = some hd := ⟨_, List.getElem?_eq_getElem (by omega)⟩
        have hhd3 : hf[j * 1]? = some hd2 := by rw [Nat.mul_one]; exact hhd2
        obtain ⟨d, t, rfl, hdN⟩ := hFne f (List.mem_of_getElem? hf1)
        have hcnt := fcount (fun f : List (Nat × Nat) => decide ((f.headD (0, 0)).1 ∈ c)) hf1
        have hkd2 : rowHP hd2 100 2 (d :: t).length (dsV (d :: t)) ∈ kids rowD hf Fs := kids_mem (f := rowD) hhd2 hf1
        have hd0 : (dsV (d :: t))[0 * 2 + 0]? = some (.int .i64 (d.1 : Int)) := rfl
        have hpos : 0 < (d :: t).length := by simp
        repeat' first
          | refine k_then ?_ | refine c_seq ?_ | refine c_region ?_ | refine s_nil ?_ | refine s_move (by exact rfl) (by exact rfl) ?_ | refine s_lss (by exact rfl) (by exact rfl) (by exact rfl) ?_ | refine s_len (by exact rfl) (by exact rfl) (by assumption) ?_ | refine c_block ?_ | refine c_skip ?_ | (refine c_cond_p (by exact rfl) (fun h => ?_) (fun h => ?_) <;> try (exfalso; omega))
        refine know_kid (by exact .tail _ (.tail _ (.head _))) hkd2 fun hsd2 _ => ?_
        refine p_begin0 [(0, true), (1, true), (2, true), (3, true), (4, true), (5, true), (6, true), (7, true), (8, true), (9, true), (10, true), (11, false)] (by kernel_rfl) ?_
        repeat' first
          | (refine p_at (by exact rfl) ?_
             first
              | refine t_move (by exact rfl) (by exact rfl) (by exact fun _ h => h) ?_ | refine t_idx (by exact rfl) (by exact rfl) (by exact rfl) (by assumption) (by first | assumption | omega) (by exact fun _ h => h) ?_ | refine t_fap (by exact rfl) (by exact rfl) (by assumption) (by omega) (by exact fun _ h => h) ?_ | refine t_ld_row (by exact rfl) (by exact rfl) (by first | exact .tail _ (.head _) | exact .tail _ (.tail _ (.tail _ (.head _)))) (by assumption) (by exact fun _ h => h) ?_ | refine t_ld_kid (by exact rfl) (by exact rfl) (by assumption) (by exact .tail _ (.tail _ (.head _))) (by assumption) (by exact fun _ h => h) ?_)
        refine p_call (gd := none) (by exact rfl) rfl (by exact rfl) (fun w h => HasN_ok hd c d.1 w hsd (ro_kid h (by exact .tail _ (.tail _ (.tail _ (.tail _ (.head _))))) hkd)) (by exact fun _ h => h) ?_
        by_cases hin : d.1 ∈ c
        · rw [decide_eq_true hin]
          rw [if_pos (by simpa using hin)] at hcnt
          have hc1 : (c.length : Int) - (ce : Int) + (((((Fs.take (j + 1)).filter fun f => decide ((f.headD (0, 0)).1 ∈ c)).length : Nat) : Int)) = (c.length : Int) - (ce : Int) + (((((Fs.take j).filter fun f => decide ((f.headD (0, 0)).1 ∈ c)).length : Nat) : Int)) + 1 := by rw [hcnt]; omega
          repeat' first
            | refine p_nil ?_
          repeat' first
            | refine k_then ?_ | refine c_region ?_ | refine s_nil ?_ | refine s_move (by exact rfl) (by exact rfl) ?_ | refine s_assign (by exact rfl) (by exact rfl) ?_ | refine s_add (by exact rfl) (by exact rfl) (by exact rfl) (by omega) ?_ | refine k_blk ?_ | refine c_cond_t (by exact rfl) ?_
          refine c_round (j + 1) [0, 0, 0, 0, 0, 0] (by exact rfl) (by rw [hc1]; exact ⟨rfl, rfl, rfl, rfl, rfl, rfl, rfl, rfl, rfl, trivial⟩) (by omega) (by omega)
        · rw [decide_eq_false hin]
          rw [if_neg (by simpa using hin), Nat.add_zero] at hcnt
          repeat' first
            | refine p_nil ?_
          repeat' first
            | refine k_then ?_ | refine c_region ?_ | refine s_nil ?_ | refine s_move (by exact rfl) (by exact rfl) ?_ | refine s_assign (by exact rfl) (by exact rfl) ?_ | refine s_add (by exact rfl) (by exact rfl) (by exact rfl) (by omega) ?_ | refine c_skip ?_ | refine k_blk ?_ | refine c_cond_f (by exact rfl) ?_
          refine c_round (j + 1) [0, 0, 0, 0, 0, 0] (by exact rfl) (by rw [hcnt]; exact ⟨rfl, rfl, rfl, rfl, rfl, rfl, rfl, rfl, rfl, trivial⟩) (by omega) (by omega)
      · obtain rfl : j = Fs.length := by omega
        rw [List.take_length] at hfj ⊢
        have htk : (cs.take (i + 1)).map (eulerK (tn es) Fs) = (cs.take i).map (eulerK (tn es) Fs) ++ [eulerK (tn es) Fs c] := by rw [List.take_add_one, hci, List.map_append]; rfl
        rw [hKc] at htk
        generalize (Fs.filter fun f => decide ((f.headD (0, 0)).1 ∈ c)).length = cf at *
        by_cases h0 : ce = 0
        · rw [if_pos h0] at htk
          repeat' first
            | refine k_then ?_ | refine c_seq ?_ | refine c_region ?_ | refine s_nil ?_ | refine s_move (by exact rfl) (by exact rfl) ?_ | refine s_assign (by exact rfl) (by exact rfl) ?_ | refine s_lss (by exact rfl) (by exact rfl) (by exact rfl) ?_ | refine s_eql (by exact rfl) (by exact rfl) (by exact rfl) ?_ | refine s_add (by exact rfl) (by exact rfl) (by exact rfl) (by omega) ?_ | refine s_len (by exact rfl) (by exact rfl) (by assumption) ?_ | refine c_exit ?_ | refine k_then_exit ?_ | refine k_blk_eq ?_ | (refine c_cond_p (by exact rfl) (fun h => ?_) (fun h => ?_) <;> try (exfalso; omega))
          refine o_mk [.int .i64 ((c.length : Int) - (ce : Int) + (cf : Int) + 1)] (by exact rfl) (by exact rfl) rfl ?_ ?_ (by simp) fun vt hvt => ?_
          · simp [Value.cells]
          · simp
          skip
          refine o_append_row (i := 1) (by exact rfl) (by exact rfl) (by exact rfl) (by exact rfl) (by exact .head _) (by exact rfl) (by simp [Value.cells, Value.oneCell']) (by omega) fun vy hvy => ?_
          repeat' first
            | refine k_then ?_ | refine c_region ?_ | refine s_nil ?_ | refine s_move (by exact rfl) (by exact rfl) ?_ | refine s_assign (by exact rfl) (by exact rfl) ?_ | refine s_add (by exact rfl) (by exact rfl) (by exact rfl) (by omega) ?_ | refine k_blk ?_
          refine c_round (i + 1, vy) [1, 1, 1, 1, 1, 1] ?_ ⟨rfl, rfl, rfl, rfl, rfl, rfl, trivial⟩ (by dsimp only; omega) (by dsimp only; omega)
          dsimp only
          rw [htk, show ∀ a b : List Int, iV (a ++ b) = iV a ++ iV b from fun a b => by simp [iV]]
          rfl
        · rw [if_neg h0, Int.add_zero] at htk
          repeat' first
            | refine k_then ?_ | refine c_seq ?_ | refine c_region ?_ | refine s_nil ?_ | refine s_move (by exact rfl) (by exact rfl) ?_ | refine s_lss (by exact rfl) (by exact rfl) (by exact rfl) ?_ | refine s_eql (by exact rfl) (by exact rfl) (by exact rfl) ?_ | refine s_len (by exact rfl) (by exact rfl) (by assumption) ?_ | refine c_skip ?_ | refine c_exit ?_ | refine k_then_exit ?_ | refine k_blk_eq ?_ | (refine c_cond_p (by exact rfl) (fun h => ?_) (fun h => ?_) <;> try (exfalso; omega))
          refine o_mk [.int .i64 ((c.length : Int) - (ce : Int) + (cf : Int))] (by exact rfl) (by exact rfl) rfl ?_ ?_ (by simp) fun vt hvt => ?_
          · simp [Value.cells]
          · simp
          skip
          refine o_append_row (i := 1) (by exact rfl) (by exact rfl) (by exact rfl) (by exact rfl) (by exact .head _) (by exact rfl) (by simp [Value.cells, Value.oneCell']) (by omega) fun vy hvy => ?_
          repeat' first
            | refine k_then ?_ | refine c_region ?_ | refine s_nil ?_ | refine s_move (by exact rfl) (by exact rfl) ?_ | refine s_assign (by exact rfl) (by exact rfl) ?_ | refine s_add (by exact rfl) (by exact rfl) (by exact rfl) (by omega) ?_ | refine k_blk ?_
          refine c_round (i + 1, vy) [1, 1, 1, 1, 1, 1] ?_ ⟨rfl, rfl, rfl, rfl, rfl, rfl, trivial⟩ (by dsimp only; omega) (by dsimp only; omega)
          dsimp only
          rw [htk, show ∀ a b : List Int, iV (a ++ b) = iV a ++ iV b from fun a b => by simp [iV]]
          rfl
  · repeat' first
      | refine k_then ?_ | refine c_seq ?_ | refine c_region ?_ | refine s_nil ?_ | refine s_move (by exact rfl) (by exact rfl) ?_ | refine s_assign (by exact rfl) (by exact rfl) ?_ | refine s_lss (by exact rfl) (by exact rfl) (by exact rfl) ?_ | refine s_len (by exact rfl) (by exact rfl) (by assumption) ?_ | refine c_exit ?_ | refine c_ret ?_ | refine k_then_exit ?_ | refine k_blk_eq ?_ | (refine c_cond_p (by exact rfl) (fun h => ?_) (fun h => ?_) <;> try (exfalso; omega))
    obtain rfl : i = cs.length := by omega
    rw [List.take_length]
    refine ret1 [0] rfl rfl rfl rfl
theorem refPlane_ok (n : Int) (v : Value) (es : List E) (vr : Value) (hr0 : List Value) (R : List (List Nat)) (o lab : Nat → Nat) (w : World) (hs : Shp v es.length) (hr : RO w No v (esV es)) (hG : RightG n es) (hR : ROs w No vr hr0 R) (hRot : RotL n.toNat (tn es) R) (hL : Lev n.toNat (nb (tn es)) o lab) :
    Calls Tryz.prog 13 #[.agg #[.int .i64 n, v], vr] w (Post w No (Just (.int .i64 (planeR n.toNat (tn es) lab R)))) := by
  have hmany := hG.many
  have hsr := hR.shp
  have hrr := hR.ro
  refine enter0 (vs := [_, _]) Tryz.func13 rfl Tryz.ntmps13 rfl ?_
  repeat' first
    | refine k_then ?_ | refine c_seq ?_ | refine c_region ?_ | refine s_nil ?_ | refine s_move (by exact rfl) (by exact rfl) ?_ | refine s_assign (by exact rfl) (by exact rfl) ?_ | refine s_ldk_box (by exact rfl) (by exact rfl) (by exact .head _) (by exact rfl) (by exact rfl) ?_ | refine o_box (by exact rfl) (by exact rfl) (fun b => ?_)
  revert b; intro bg
  refine s_call (by exact rfl) (by exact rfl) (fun w h => refRotRight_ok n v es vr hr0 (intL R) w hs (ro_old h hr) (by omega) (rosI_old h hR.int)) ?_
  rw [rot_zero hG hRot]
  repeat' first
    | refine k_then ?_ | refine c_seq ?_ | refine c_region ?_ | refine s_nil ?_ | refine s_move (by exact rfl) (by exact rfl) ?_ | refine s_assign (by exact rfl) (by exact rfl) ?_ | refine s_neq (by exact rfl) (by exact rfl) (by exact rfl) ?_ | refine s_ldk_box (by exact rfl) (by exact rfl) (by exact .head _) (by exact rfl) (by exact rfl) ?_ | refine c_skip ?_ | (refine c_cond_p (by exact rfl) (fun h => ?_) (fun h => ?_) <;> try (exfalso; omega))
  refine o_call (by exact rfl) (by exact rfl) (fun w h => refEuler_ok n v es vr hr0 R o lab w hs (ro_old h hr) hG (ros_old h hR) hRot hL) ?_
  rintro vo _ rfl
  refine know_row (v := vo) (.head _) fun hvo _ => ?_
  unfold planeR
  generalize eulerL n.toNat (tn es) lab (facesR n.toNat (tn es) R) = l at *
  have hlm := hvo.1
  simp only [maxLen] at hlm
  repeat' first
    | refine k_then ?_ | refine c_seq ?_ | refine c_region ?_ | refine s_nil ?_ | refine s_assign (by exact rfl) (by exact rfl) ?_ | refine c_block ?_
  refine c_loop (fun k : Nat => k ≤ l.length ∧ ∀ x ∈ l.take k, x = 2) (fun k => [(6, vo), (7, .int .i64 (k : Int))]) (fun _ => [rowHP vo 3 1 l.length (iV l)]) (fun k => l.length - k) 0 [0] ⟨Nat.zero_le _, by simp⟩ (by exact rfl) ⟨rfl, rfl, trivial⟩ ?_
  rintro k ⟨hk, hq⟩
  by_cases hlt : k < l.length
  · obtain ⟨e, he⟩ : ∃ e, l[k]? = some e := ⟨_, List.getElem?_eq_getElem hlt⟩
    have hE : (iV l)[k * 1]? = some (.int .i64 e) := by rw [Nat.mul_one, iV, List.getElem?_map, he]; rfl
    by_cases h2 : e = 2
    · repeat' first
        | refine k_then ?_ | refine c_seq ?_ | refine c_region ?_ | refine s_nil ?_ | refine s_move (by exact rfl) (by exact rfl) ?_ | refine s_assign (by exact rfl) (by exact rfl) ?_ | refine s_lss (by exact rfl) (by exact rfl) (by exact rfl) ?_ | refine s_neq (by exact rfl) (by exact rfl) (by exact rfl) ?_ | refine s_add (by exact rfl) (by exact rfl) (by exact rfl) (by omega) ?_ | refine s_len (by exact rfl) (by exact rfl) (by assumption) ?_ | refine s_idx (by exact rfl) (by exact rfl) (by exact rfl) (by assumption) (by first | assumption | omega) ?_ | refine s_ld_row (by exact rfl) (by exact rfl) (by exact .head _) (by assumption) ?_ | refine c_block ?_ | refine c_skip ?_ | refine k_blk ?_ | (refine c_cond_p (by exact rfl) (fun h => ?_) (fun h => ?_) <;> try (exfalso; omega))
      refine c_round (k + 1) [0] (by exact rfl) ⟨rfl, rfl, trivial⟩ ⟨by omega, fun x hx => ?_⟩ (by omega)
      rw [List.take_add_one, he] at hx
      rcases List.mem_append.1 hx with hx | hx
      · exact hq x hx
      · obtain rfl : x = e := by simpa using hx
        exact h2
    · repeat' first
        | refine k_then ?_ | refine c_seq ?_ | refine c_region ?_ | refine s_nil ?_ | refine s_move (by exact rfl) (by exact rfl) ?_ | refine s_assign (by exact rfl) (by exact rfl) ?_ | refine s_lss (by exact rfl) (by exact rfl) (by exact rfl) ?_ | refine s_neq (by exact rfl) (by exact rfl) (by exact rfl) ?_ | refine s_len (by exact rfl) (by exact rfl) (by assumption) ?_ | refine s_idx (by exact rfl) (by exact rfl) (by exact rfl) (by assumption) (by first | assumption | omega) ?_ | refine s_ld_row (by exact rfl) (by exact rfl) (by exact .head _) (by assumption) ?_ | refine c_block ?_ | refine c_skip ?_ | refine c_ret ?_ | refine k_then_ret ?_ | refine k_blk_ret ?_ | (refine c_cond_p (by exact rfl) (fun h => ?_) (fun h => ?_) <;> try (exfalso; omega))
      refine ret1 [] rfl rfl rfl ⟨?_, rfl⟩
      rw [if_pos (List.any_eq_true.2 ⟨e, List.mem_of_getElem? he, decide_eq_true h2⟩)]
  · repeat' first
      | refine k_then ?_ | refine c_seq ?_ | refine c_region ?_ | refine s_nil ?_ | refine s_move (by exact rfl) (by exact rfl) ?_ | refine s_assign (by exact rfl) (by exact rfl) ?_ | refine s_lss (by exact rfl) (by exact rfl) (by exact rfl) ?_ | refine s_len (by exact rfl) (by exact rfl) (by assumption) ?_ | refine c_exit ?_ | refine c_ret ?_ | refine k_then_exit ?_ | refine k_blk_eq ?_ | (refine c_cond_p (by exact rfl) (fun h => ?_) (fun h => ?_) <;> try (exfalso; omega))
    rw [List.take_of_length_le (by omega)] at hq
    refine ret1 [] rfl rfl rfl ⟨?_, rfl⟩
    rw [if_neg]
    rw [List.any_eq_true]
    rintro ⟨x, hx, hne⟩
    exact of_decide_eq_true hne (hq x hx)
theorem refPlane_no (n : Int) (v : Value) (es : List E) (vr : Value) (hr0 : List Value) (ls : List (List Int)) (w : World) (hs : Shp v es.length) (hr : RO w No v (esV es)) (hm : es.length < 4611686018427387904) (hR : ROsI w No vr hr0 ls) (hk : rotK n es ls ≠ 0) :
    Calls Tryz.prog 13 #[.agg #[.int .i64 n, v], vr] w (Post w No (Just (.int .i64 (rotK n es ls)))) := by
  have hsr := hR.shp
  have hrr := hR.ro
  refine enter0 (vs := [_, _]) Tryz.func13 rfl Tryz.ntmps13 rfl ?_
  repeat' first
    | refine k_then ?_ | refine c_seq ?_ | refine c_region ?_ | refine s_nil ?_ | refine s_move (by exact rfl) (by exact rfl) ?_ | refine s_assign (by exact rfl) (by exact rfl) ?_ | refine s_ldk_box (by exact rfl) (by exact rfl) (by exact .head _) (by exact rfl) (by exact rfl) ?_ | refine o_box (by exact rfl) (by exact rfl) (fun b => ?_)
  refine s_call (by exact rfl) (by exact rfl) (fun w h => refRotRight_ok n v es vr hr0 ls w hs (ro_old h hr) hm (rosI_old h hR)) ?_
  repeat' first
    | refine k_then ?_ | refine c_seq ?_ | refine c_region ?_ | refine s_nil ?_ | refine s_move (by exact rfl) (by exact rfl) ?_ | refine s_assign (by exact rfl) (by exact rfl) ?_ | refine s_neq (by exact rfl) (by exact rfl) (by exact rfl) ?_ | refine c_ret ?_ | refine k_then_ret ?_ | (refine c_cond_p (by exact rfl) (fun h => ?_) (fun h => ?_) <;> try (exfalso; omega))
  refine ret1 [] rfl rfl rfl ⟨rfl, rfl⟩
end Go.Proofs.YtpajjnkmaebhcabGreat
end
section
set_option linter.unusedVariables false
namespace Go.Proofs.YtpajjnkmaebhcabGreat
open Go Go.RowKit Go.Sl Fil
set_option maxRecDepth 100000
set_option maxHeartbeats 8000000
set_option linter.unusedVariables false
set_option linter.unusedSimpArgs false
attribute [local irreducible] Code.wp wpList bodyPost wpQuiet Exit.then Exit.inBlock Post wpAnyH wpOp
theorem ColourFive_bad (n : Int) (v : Value) (es : List E) (vr : Value) (hr0 : List Value) (ls : List (List Int)) (K : Int) (w : World) (hs : Shp v es.length) (hr : RO w No v (esV es)) (hR : ROsI w No vr hr0 ls) (hlen : ∀ l ∈ ls, l.length ≤ 17592186044416) (hl : light7 n es.length ls 40 = true) (hK : K ≠ 0) (hP : PlaneIs n v vr K w)
    (hQ : ∀ (L : List HP) (w' : World), St w No L w' → Calls Tryz.prog 13 #[.agg #[.int .i64 n, v], vr] w' (Post w' No (Just (.int .i64 K)))) :
    Calls Tryz.prog 3 #[.agg #[.int .i64 n, v], vr] w (Post w No (Just (.bool true))) := by
  have hnone : Shp (.slice none 0 0) 0 := ⟨by simp [maxLen], .inl ⟨rfl, rfl⟩⟩
  refine enter0 (vs := [_, _]) Tryz.func3 rfl Tryz.ntmps3 rfl ?_
  repeat' first
    | refine k_then ?_ | refine c_seq ?_ | refine c_region ?_ | refine s_nil ?_ | refine s_move (by exact rfl) (by exact rfl) ?_ | refine s_assign (by exact rfl) (by exact rfl) ?_ | refine s_ldk_box (by exact rfl) (by exact rfl) (by exact .head _) (by exact rfl) (by exact rfl) ?_ | refine o_box (by exact rfl) (by exact rfl) (fun b => ?_) | fail
  refine s_call (by exact rfl) (by exact rfl) (fun w h => Light7_ok n v es.length vr hr0 ls 40 w hs (rosI_old h hR) hlen (by omega)) ?_
  rw [hl]
  repeat' first
    | refine k_then ?_ | refine c_seq ?_ | refine c_region ?_ | refine s_nil ?_ | refine s_move (by exact rfl) (by exact rfl) ?_ | refine s_not (by exact rfl) (by exact rfl) ?_ | refine s_ldk_box (by exact rfl) (by exact rfl) (by exact .head _) (by exact rfl) (by exact rfl) ?_ | refine c_skip ?_ | refine c_cond_f (by exact rfl) ?_ | fail
  refine s_call (vs := [.agg #[.int .i64 n, v], vr]) (by exact rfl) (by exact rfl) (fun w h => Five_no n v vr K w (hP.old h) hK) ?_
  repeat' first
    | refine k_then ?_ | refine c_seq ?_ | refine c_region ?_ | refine s_nil ?_ | refine s_move (by exact rfl) (by exact rfl) ?_ | refine s_assign (by exact rfl) (by exact rfl) ?_ | refine s_extract (by exact rfl) (by exact rfl) (by exact rfl) ?_ | refine s_ldk_box (by exact rfl) (by exact rfl) (by exact .head _) (by exact rfl) (by exact rfl) ?_ | fail
  refine s_call (vs := [.agg #[.int .i64 n, v], vr]) (by exact rfl) (by exact rfl) (fun w h => hQ _ w h) ?_
  repeat' first
    | refine k_then ?_ | refine c_seq ?_ | refine c_region ?_ | refine s_nil ?_ | refine s_move (by exact rfl) (by exact rfl) ?_ | refine s_assign (by exact rfl) (by exact rfl) ?_ | refine s_eql (by exact rfl) (by exact rfl) (by exact rfl) ?_ | refine s_neq (by exact rfl) (by exact rfl) (by exact rfl) ?_ | refine s_pick_t (by exact rfl) (by exact rfl) (by exact rfl) ?_ | (refine c_cond_p (by exact rfl) (fun h => ?_) (fun h => ?_) <;> try (exfalso; omega)) | (refine g_case (by exact rfl) (by exact rfl) (fun h => ?_) (fun h => ?_) <;> try (exfalso; omega)) | refine w_move (by exact rfl) (by exact rfl) (by exact rfl) (by exact rfl) ?_ | refine w_eql (by exact rfl) (by exact rfl) (by exact rfl) (by exact rfl) (by exact rfl) ?_ | refine w_len (by exact rfl) (by exact rfl) (by exact rfl) (by exact rfl) (by assumption) ?_ | refine g_on (by exact rfl) (by exact rfl) ?_ | fail
  refine s_call (vs := []) (by exact rfl) (by exact rfl) (fun w h => alive11_ok w) ?_
  repeat' first
    | refine k_then ?_ | refine s_nil ?_ | refine s_assign (by exact rfl) (by exact rfl) ?_ | refine s_pick_t (by exact rfl) (by exact rfl) (by exact rfl) ?_ | refine c_ret ?_ | refine k_then_ret ?_ | fail
  refine ret1 [] rfl rfl (by exact rfl) ⟨rfl, rfl⟩
theorem ColourFive_ok (n : Int) (v : Value) (es : List E) (vr : Value) (hr0 : List Value) (ls : List (List Int)) (w : World) (hs : Shp v es.length) (hr : RO w No v (esV es)) (hR : ROsI w No vr hr0 ls) (hlen : ∀ l ∈ ls, l.length ≤ 17592186044416) :
    Calls Tryz.prog 3 #[.agg #[.int .i64 n, v], vr] w (Post w No (Just (.bool true))) := by
  cases hl : light7 n es.length ls 40
  · refine enter0 (vs := [_, _]) Tryz.func3 rfl Tryz.ntmps3 rfl ?_
    repeat' first
      | refine k_then ?_ | refine c_seq ?_ | refine c_region ?_ | refine s_nil ?_ | refine s_move (by exact rfl) (by exact rfl) ?_ | refine s_assign (by exact rfl) (by exact rfl) ?_ | refine s_ldk_box (by exact rfl) (by exact rfl) (by exact .head _) (by exact rfl) (by exact rfl) ?_ | refine o_box (by exact rfl) (by exact rfl) (fun b => ?_) | fail
    refine s_call (by exact rfl) (by exact rfl) (fun w h => Light7_ok n v es.length vr hr0 ls 40 w hs (rosI_old h hR) hlen (by omega)) ?_
    rw [hl]
    repeat' first
      | refine k_then ?_ | refine c_seq ?_ | refine c_region ?_ | refine s_nil ?_ | refine s_not (by exact rfl) (by exact rfl) ?_ | refine c_cond_t (by exact rfl) ?_ | fail
    refine s_call (vs := []) (by exact rfl) (by exact rfl) (fun w h => alive11_ok w) ?_
    repeat' first
      | refine k_then ?_ | refine s_nil ?_ | refine s_assign (by exact rfl) (by exact rfl) ?_ | refine c_ret ?_ | refine k_then_ret ?_ | fail
    refine ret1 [] rfl rfl (by exact rfl) ⟨rfl, rfl⟩
  obtain ⟨l1, l2, l3, l4⟩ := light7_t hl
  have hle : ∀ l ∈ ls, l.length ≤ 1048576 := fun l hl => by have := l4 l hl; omega
  by_cases hk : rotK n es ls = 0
  case neg => exact ColourFive_bad n v es vr hr0 _ _ w hs hr hR hlen hl hk (planeIs_no hs hr (by omega) hR hle hk) fun L w' h => refPlane_no n v es vr hr0 ls w' hs (ro_old h hr) (by omega) (rosI_old h hR) hk
  obtain ⟨hG, R, rfl, hRot⟩ := rot_sys hk
  have hRs := hR.nat
  obtain ⟨o, lab, hL⟩ := lev_ex w hG
  by_cases hp : planeR n.toNat (tn es) lab R = 0
  case neg => exact ColourFive_bad n v es vr hr0 _ _ w hs hr hR hlen hl hp (planeIs_ok hs hr hG hRs hRot hL) fun L w' h => refPlane_ok n v es vr hr0 R o lab w' hs (ro_old h hr) hG (ros_old h hRs) hRot hL
  refine enter0 (vs := [_, _]) Tryz.func3 rfl Tryz.ntmps3 rfl ?_
  repeat' first
    | refine k_then ?_ | refine c_seq ?_ | refine c_region ?_ | refine s_nil ?_ | refine s_move (by exact rfl) (by exact rfl) ?_ | refine s_assign (by exact rfl) (by exact rfl) ?_ | refine s_ldk_box (by exact rfl) (by exact rfl) (by exact .head _) (by exact rfl) (by exact rfl) ?_ | refine o_box (by exact rfl) (by exact rfl) (fun b => ?_) | fail
  refine s_call (by exact rfl) (by exact rfl) (fun w h => Light7_ok n v es.length vr hr0 (intL R) 40 w hs (rosI_old h hR) hlen (by omega)) ?_
  rw [hl]
  repeat' first
    | refine k_then ?_ | refine c_seq ?_ | refine c_region ?_ | refine s_nil ?_ | refine s_move (by exact rfl) (by exact rfl) ?_ | refine s_not (by exact rfl) (by exact rfl) ?_ | refine s_ldk_box (by exact rfl) (by exact rfl) (by exact .head _) (by exact rfl) (by exact rfl) ?_ | refine c_skip ?_ | refine c_cond_f (by exact rfl) ?_ | fail
  refine o_call (by exact rfl) (by exact rfl) (fun w h => Five_ok n v es vr hr0 R o lab w hs (ro_old h hr) hG (ros_old h hRs) hRot hL (hp ▸ planeIs_ok hs (ro_old h hr) hG (ros_old h hRs) hRot hL) hp (by omega)) ?_
  rintro _ _ ⟨vd, cd, rfl, hcl, hc5, hcne, rfl⟩
  have hck := col_right hG hRot hcl hc5 hcne
  refine know_row (v := vd) (.head _) fun hvd _ => ?_
  repeat' first
    | refine k_then ?_ | refine c_seq ?_ | refine c_region ?_ | refine s_nil ?_ | refine s_move (by exact rfl) (by exact rfl) ?_ | refine s_assign (by exact rfl) (by exact rfl) ?_ | refine s_extract (by exact rfl) (by exact rfl) (by exact rfl) ?_ | refine s_ldk_box (by exact rfl) (by exact rfl) (by exact .tail _ (.head _)) (by exact rfl) (by exact rfl) ?_ | fail
  refine s_call (by exact rfl) (by exact rfl) (fun w h => refPlane_ok n v es vr hr0 R o lab w hs (ro_old h hr) hG (ros_old h hRs) hRot hL) ?_
  rw [hp]
  repeat' first
    | refine k_then ?_ | refine c_seq ?_ | refine c_region ?_ | refine s_nil ?_ | refine s_move (by exact rfl) (by exact rfl) ?_ | refine s_assign (by exact rfl) (by exact rfl) ?_ | refine s_eql (by exact rfl) (by exact rfl) (by exact rfl) ?_ | refine s_neq (by exact rfl) (by exact rfl) (by exact rfl) ?_ | refine c_skip ?_ | (refine c_cond_p (by exact rfl) (fun h => ?_) (fun h => ?_) <;> try (exfalso; omega)) | (refine g_case (by exact rfl) (by exact rfl) (fun h => ?_) (fun h => ?_) <;> try (exfalso; omega)) | refine w_move (by exact rfl) (by exact rfl) (by exact rfl) (by exact rfl) ?_ | refine w_ldk_box (by exact rfl) (by exact rfl) (by exact rfl) (by exact rfl) (by exact .tail _ (.head _)) (by exact rfl) (by exact rfl) ?_ | refine g_on (by exact rfl) (by exact rfl) ?_ | fail
  refine s_call (by exact rfl) (by exact rfl) (fun w h => refColCheck_ok n v vd es (cd.map fun k : Nat => (k : Int)) 5 w hs (ro_old h hr) (by omega) (by rw [List.length_map, hcl]; exact hvd) (by rw [← nV_iV]; exact ro_own h (by exact .head _))) ?_
  rw [hck]
  repeat' first
    | refine s_move (by exact rfl) (by exact rfl) ?_ | refine s_pick_t (by exact rfl) (by exact rfl) (by exact rfl) ?_ | (refine g_case (by exact rfl) (by exact rfl) (fun h => ?_) (fun h => ?_) <;> try (exfalso; omega)) | refine w_eql (by exact rfl) (by exact rfl) (by exact rfl) (by exact rfl) (by exact rfl) ?_ | refine g_on (by exact rfl) (by exact rfl) ?_ | fail
  refine s_call (vs := []) (by exact rfl) (by exact rfl) (fun w h => alive11_ok w) ?_
  repeat' first
    | refine k_then ?_ | refine s_nil ?_ | refine s_assign (by exact rfl) (by exact rfl) ?_ | refine s_pick_t (by exact rfl) (by exact rfl) (by exact rfl) ?_ | refine c_ret ?_ | fail
  refine ret1 [] rfl rfl (by exact rfl) ⟨rfl, rfl⟩
end Go.Proofs.YtpajjnkmaebhcabGreat
end
section
namespace Go.Proofs.YtpajjnkmaebhcabGreat
open Go.ChangeShapes Go.WideShapes Go.ChangeAt Go.RowKit Go.Joins Go.Deep Go.Sl Fil
set_option maxRecDepth 100000
set_option linter.unusedVariables false
set_option linter.unusedSimpArgs false
theorem row_own : ownKnob Tryz.prog.godebug = none := by kernel_rfl
theorem row_laid : laidOutB Tryz.prog = true := by kernel_rfl
theorem cells_graph : Tryz.prog.cellsOf 24 = 2 := by kernel_rfl
theorem cells_edge : Tryz.prog.cellsOf 37 = 3 := by kernel_rfl
theorem cells_int : Tryz.prog.cellsOf 3 = 1 := by kernel_rfl
section
variable {H : Type} {enc : TypeId × Value → H}
theorem slice_spot {P : Program} {w : World} {r : Reach} {base : Nat} {t e : TypeId} {a : Addr} {len cap : Nat} (hu : P.underlying t = some (.slice e)) (h : Cell.okWide P w r base t (.slice (some a) len cap)) : a.spot = none := by
  simp only [Cell.okWide, hu, Cell.ok, World.has] at h
  exact h.2.2.2.1
theorem es_list {n : Nat} {f : Nat → Nat → Value} (h : ∀ i, i < n → ∃ a b c, f i 0 = .int .i64 a ∧ f i 1 = .int .i64 b ∧ f i 2 = .int .i64 c) : ∃ es : List E, es.length = n ∧ ∀ (i : Nat) j u, i < n → j < 3 → (esV es)[i * 3 + j]? = some u → u = f i j := by
  induction n with
  | zero => exact ⟨[], rfl, fun i j u hi => by omega⟩
  | succ n ih =>
    obtain ⟨es, h1, h2⟩ := ih fun i hi => h i (by omega)
    obtain ⟨a, b, c, ha, hb, hc⟩ := h n (by omega)
    refine ⟨es ++ [(a, b, c)], by simp [h1], fun i j u hi hj hu => ?_⟩
    rw [esV_snoc] at hu
    have hl := esV_length es
    by_cases hin : i < n
    · rw [List.getElem?_append_left (by omega)] at hu
      exact h2 i j u hin hj hu
    · obtain rfl : i = n := by omega
      rw [List.getElem?_append_right (by omega), show i * 3 + j - (esV es).length = j from by omega] at hu
      match j, hj with
      | 0, _ => simp [eV] at hu; rw [← hu, ha]
      | 1, _ => simp [eV] at hu; rw [← hu, hb]
      | 2, _ => simp [eV] at hu; rw [← hu, hc]
theorem open_edges {W : World} {base fuel : Nat} {v : Value} {y : DataW H × List MemPlace} (hv : Cell.okWide Tryz.prog W .any base 22 v) (h : DataW.trod enc Tryz.prog W 0 (fun _ => true) true fuel 22 [v] = some y) :
    ∃ es : List E, Shp v es.length ∧ RO W No v (esV es) := by
  rcases open_slice Tryz.underlying22 h with ⟨hcs, _⟩ | ⟨a, len, cap, m, n, D, Pl, hcs, _, hl, hm, hmm, _, hx⟩
  · simp only [List.cons.injEq, and_true] at hcs
    subst hcs
    exact ⟨[], ⟨by simp [maxLen], .inl ⟨rfl, rfl⟩⟩, RO.of_rd fun j u hj => by simp [esV] at hj⟩
  · simp only [List.cons.injEq, and_true] at hcs
    subst hcs
    have hsp := slice_spot Tryz.underlying22 hv
    obtain ⟨g, off, sp⟩ := a
    dsimp only at hsp
    subst hsp
    simp only [if_true] at hmm
    subst hmm
    have key : ∀ i, i < len → ∃ a b c, W.cell? ⟨g, off + (i * 3 + 0), none⟩ = some (.int .i64 a) ∧ W.cell? ⟨g, off + (i * 3 + 1), none⟩ = some (.int .i64 b) ∧ W.cell? ⟨g, off + (i * 3 + 2), none⟩ = some (.int .i64 c) := by
      intro i hi
      obtain ⟨cs, h1, h2⟩ := hx i (by omega)
      rw [cells_edge] at h1
      obtain ⟨_, hlen, hc⟩ := World.cells?_some h1
      obtain ⟨y0, y1, y2, k, _, _, t0, t1, t2⟩ := trod_struct3 Tryz.underlying37 h2
      obtain ⟨a, e0, -, -⟩ := DataW.trod_int Tryz.underlying3 t0
      obtain ⟨b, e1, -, -⟩ := DataW.trod_int Tryz.underlying3 t1
      obtain ⟨c, e2, -, -⟩ := DataW.trod_int Tryz.underlying2 t2
      match cs, hlen, hc, e0, e1, e2 with
      | [x0, x1, x2], _, hc, e0, e1, e2 =>
        have c0 := hc 0 (by omega)
        have c1 := hc 1 (by omega)
        have c2 := hc 2 (by omega)
        have f0 : x0 = .int .i64 a := by
          have : [x0] = [.int .i64 a] := e0
          simpa using this
        have f1 : x1 = .int .i64 b := by
          have : [x1] = [.int .i64 b] := e1
          simpa using this
        have f2 : x2 = .int .i64 c := by
          have : [x2] = [.int .i64 c] := e2
          simpa using this
        subst f0 f1 f2
        refine ⟨a, b, c, ?_, ?_, ?_⟩
        · rw [Deep.add_add] at c0
          rw [show (⟨g, off + (i * 3 + 0), none⟩ : Addr) = (⟨g, off, none⟩ : Addr).add (i * 3 + 0) from by simp [Addr.add]]
          exact c0
        · rw [Deep.add_add] at c1
          rw [show (⟨g, off + (i * 3 + 1), none⟩ : Addr) = (⟨g, off, none⟩ : Addr).add (i * 3 + 1) from by simp [Addr.add]]
          exact c1
        · rw [Deep.add_add] at c2
          rw [show (⟨g, off + (i * 3 + 2), none⟩ : Addr) = (⟨g, off, none⟩ : Addr).add (i * 3 + 2) from by simp [Addr.add]]
          exact c2
    obtain ⟨es, he1, he2⟩ := es_list (n := len) (f := fun i j => (W.cell? ⟨g, off + (i * 3 + j), none⟩).getD undef) (fun i hi => by
      obtain ⟨a, b, c, h0, h1, h2⟩ := key i hi
      exact ⟨a, b, c, congrArg (fun x => Option.getD x undef) h0, congrArg (fun x => Option.getD x undef) h1, congrArg (fun x => Option.getD x undef) h2⟩)
    subst he1
    refine ⟨es, ⟨by omega, .inr (.inl ⟨g, off, m, rfl, hl, hm⟩)⟩, RO.of_rd fun j u hj => ⟨g, off, es.length, m, rfl, ?_⟩⟩
    have hlt := (List.getElem?_eq_some_iff.1 hj).1
    rw [esV_length] at hlt
    have hd : j / 3 * 3 + j % 3 = j := by omega
    have hu := he2 (j / 3) (j % 3) u (by omega) (by omega) (by rw [hd]; exact hj)
    rw [hd] at hu
    obtain ⟨a, b, c, h0, h1, h2⟩ := key (j / 3) (by omega)
    have hex : ∃ x, W.cell? ⟨g, off + j, none⟩ = some x := by
      have : j % 3 = 0 ∨ j % 3 = 1 ∨ j % 3 = 2 := by omega
      rcases this with h | h | h
      · exact ⟨_, by rw [← hd, h]; exact h0⟩
      · exact ⟨_, by rw [← hd, h]; exact h1⟩
      · exact ⟨_, by rw [← hd, h]; exact h2⟩
    obtain ⟨x, hx⟩ := hex
    rw [hx] at hu ⊢
    rw [hu]
    rfl
theorem open_graph {W : World} {base : Nat} {v : Value} {d : DataW H} {p : List MemPlace} (hv : Value.okWide Tryz.prog W .any base 24 v) (h : DataW.Trod enc Tryz.prog W 0 (fun _ => true) true 24 v d p) :
    ∃ (n : Int) (u : Value) (es : List E), v = .agg #[.int .i64 n, u] ∧ Shp u es.length ∧ RO W No u (esV es) := by
  obtain ⟨c0, c1, y0, y1, m, rfl, -, -, hy0, hy1⟩ := open_agg2 Tryz.underlying24 (by kernel_rfl) cells_graph hv h
  obtain ⟨a, e0, -, -⟩ := DataW.trod_int Tryz.underlying3 hy0
  simp only [List.cons.injEq, and_true] at e0
  subst e0
  have hc : Cell.okWide Tryz.prog W .any base 22 c1 := by
    simp only [Value.okWide, Tryz.underlying24] at hv
    obtain ⟨cs, hcs, _, ts, hts, _, hall⟩ := hv
    obtain rfl : cs = #[.int .i64 a, c1] := by simpa using hcs.symm
    have e : Tryz.prog.cellTypes Tryz.prog.depth 24 = some [3, 22] := by kernel_rfl
    rw [e] at hts
    obtain rfl : [3, 22] = ts := by simpa using hts
    obtain ⟨u, hu, hok⟩ := hall 1 c1 rfl
    obtain rfl : 22 = u := by simpa using hu
    exact hok
  obtain ⟨es, h1, h2⟩ := open_edges hc hy1
  exact ⟨a, c1, es, rfl, h1, h2⟩
end
end Go.Proofs.YtpajjnkmaebhcabGreat
end
section
namespace Go.Proofs.YtpajjnkmaebhcabGreat
open Go.ChangeShapes Go.WideShapes Go.ChangeAt Go.RowKit Go.Joins Go.Deep Go.Sl Fil
set_option maxRecDepth 100000
set_option linter.unusedVariables false
set_option linter.unusedSimpArgs false
section
variable {H : Type} {enc : TypeId × Value → H}
theorem pick_lists {n : Nat} {P : Nat → Value → List Int → Prop} (h : ∀ i, i < n → ∃ x l, P i x l) : ∃ (hs : List Value) (ls : List (List Int)), hs.length = n ∧ ls.length = n ∧ ∀ (i : Nat) x l, hs[i]? = some x → ls[i]? = some l → P i x l := by
  induction n with
  | zero => exact ⟨[], [], rfl, rfl, fun i x l h => by simp at h⟩
  | succ n ih =>
    obtain ⟨hs, ls, h1, h2, h3⟩ := ih fun i hi => h i (by omega)
    obtain ⟨x, l, hp⟩ := h n (by omega)
    refine ⟨hs ++ [x], ls ++ [l], by simp [h1], by simp [h2], fun i y m hy hm => ?_⟩
    by_cases hi : i < n
    · rw [List.getElem?_append_left (by omega)] at hy hm
      exact h3 i y m hy hm
    · have hb := (List.getElem?_eq_some_iff.1 hy).1
      simp only [List.length_append, List.length_cons, List.length_nil] at hb
      obtain rfl : i = n := by omega
      rw [List.getElem?_append_right (by omega), show i - hs.length = 0 by omega] at hy
      rw [List.getElem?_append_right (by omega), show i - ls.length = 0 by omega] at hm
      simp at hy hm
      subst hy hm
      exact hp
theorem weights_all {P : Program} {e : TypeId} : ∀ {l : List (DataW H)} {d : DataW H}, d ∈ l → ∀ n ∈ d.weights P e, n ∈ DataW.weightsAll P e l
  | x :: l, d, h, n, hn => by
    rw [DataW.weightsAll]
    rcases List.mem_cons.1 h with rfl | h
    · exact List.mem_append.2 (.inl hn)
    · exact List.mem_append.2 (.inr (weights_all h n hn))
theorem okc_rows {W : World} {base : Nat} {v x : Value} (hc : Cell.okWide Tryz.prog W .any base 25 v) (h : v.cells.toList = [x]) : v = x := by
  cases v with
  | agg cs => simp [Cell.okWide, Tryz.underlying25, Cell.ok] at hc
  | _ => simpa [Value.cells] using h
theorem open_rows {W : World} {base : Nat} {v : Value} {d : DataW H} {p : List MemPlace} (hv : Value.okWide Tryz.prog W .any base 25 v) (h : DataW.Trod enc Tryz.prog W 0 (fun _ => true) true 25 v d p) (hz : ∀ n ∈ d.weights Tryz.prog 25, n ≤ reachBytes) :
    ∃ (hs : List Value) (ls : List (List Int)), ROsI W No v hs ls ∧ ∀ l ∈ ls, l.length ≤ 17592186044416 := by
  obtain ⟨fuel, hf⟩ := h
  have hc : Cell.okWide Tryz.prog W .any base 25 v := by
    simp only [Value.okWide, Tryz.underlying25] at hv
    exact hv
  rcases open_slice1 Tryz.underlying25 (by kernel_rfl) hf with ⟨hcs, _⟩ | ⟨a, len, cap, m, n, V, D, Pl, hcs, _, hl, hm, hmm, hxd, hx⟩
  · have hv0 : v = .slice none 0 0 := okc_rows hc hcs
    subst hv0
    exact ⟨[], [], ⟨⟨by simp [maxLen], .inl ⟨rfl, rfl⟩⟩, rfl, RO.of_rd fun j u hj => by simp at hj, fun i x l hi => by simp at hi⟩, by simp⟩
  · have hv0 : v = .slice (some a) len cap := okc_rows hc hcs
    subst hv0
    have hsp := slice_spot Tryz.underlying25 hc
    obtain ⟨g, off, sp⟩ := a
    dsimp only at hsp
    subst hsp
    rw [if_pos rfl] at hmm
    subst hmm
    obtain ⟨hs, ls, h1, h2, h3⟩ := pick_lists (n := len) (P := fun i x l => W.cell? ⟨g, off + i, none⟩ = some x ∧ (Shp x l.length ∧ RO W No x (iV l)) ∧ l.length ≤ 17592186044416) fun i hi => by
      obtain ⟨c1, c2⟩ := hx i (by omega)
      rw [show (⟨g, off, none⟩ : Addr).add i = ⟨g, off + i, none⟩ from by simp [Addr.add]] at c1
      rcases open_ints Tryz.underlying28 Tryz.underlying3 cells_int c2 with ⟨e, _⟩ | ⟨a', len', cap', zs, e, _, hl', hm', hzl, hdd, hx', _⟩
      · obtain e : V i = .slice none 0 0 := by simpa using e
        rw [e] at c1
        exact ⟨_, [], c1, ⟨⟨by simp [maxLen], .inl ⟨rfl, rfl⟩⟩, RO.of_rd fun j u hj => by simp [iV] at hj⟩, by simp⟩
      · obtain e : V i = .slice (some a') len' cap' := by simpa using e
        rw [e] at c1
        rw [if_pos rfl] at hzl
        by_cases h0 : cap' = 0
        · obtain rfl : len' = 0 := by omega
          subst h0
          exact ⟨_, [], c1, ⟨⟨by simp [maxLen], .inr (.inr ⟨⟨_, rfl⟩, rfl⟩)⟩, RO.of_rd fun j u hj => by simp [iV] at hj⟩, by simp⟩
        · have hsp := World.cell?_spot (hx' 0 (by omega))
          obtain ⟨g', off', sp'⟩ := a'
          obtain rfl : sp' = none := by simpa [Addr.add] using hsp
          have htl : (zs.take len').length = len' := by rw [List.length_take]; omega
          have hzz : len' ≤ 17592186044416 := by
            have e1 : D i = .slice (lits .i64 (zs.take len')) (lits .i64 (zs.drop len')) := congrArg Prod.fst hdd
            have e2 : (8 : Nat) = Tryz.prog.bytesOf 3 := by kernel_rfl
            have h5 : (zs.length * 8) ∈ (D i).weights Tryz.prog 28 := by
              rw [e1, DataW.weights, Tryz.underlying28]
              refine List.mem_cons.2 (.inl ?_)
              rw [← e2]
              simp [lits]
              omega
            have h6 : (D i) ∈ (List.range len).map D := List.mem_map.2 ⟨i, List.mem_range.2 hi, rfl⟩
            have h7 := hz _ (by
              rw [show d = _ from congrArg Prod.fst hxd, DataW.weights, Tryz.underlying25]
              exact List.mem_cons.2 (.inr (List.mem_append.2 (.inl (weights_all h6 _ h5)))))
            simp only [reachBytes] at h7
            omega
          refine ⟨_, zs.take len', c1, ⟨⟨by rw [htl]; omega, .inr (.inl ⟨g', off', cap', by rw [htl], by rw [htl]; exact hl', hm'⟩)⟩, RO.of_rd fun j u hj => ⟨g', off', len', cap', rfl, ?_⟩⟩, by rw [htl]; exact hzz⟩
          have hlt := (List.getElem?_eq_some_iff.1 hj).1
          simp only [iV, List.length_map, htl] at hlt
          have h2 := hx' j (by omega)
          rw [show (⟨g', off', none⟩ : Addr).add j = ⟨g', off' + j, none⟩ from by simp [Addr.add]] at h2
          rw [h2, ← hj]
          simp only [iV, List.getElem?_map, List.getElem?_take, if_pos hlt]
          rw [List.getD_eq_getElem?_getD, List.getElem?_eq_getElem (by omega)]
          rfl
    refine ⟨hs, ls, ⟨⟨by rw [h2]; omega, .inr (.inl ⟨g, off, m, by rw [h2], by rw [h2]; exact hl, hm⟩)⟩, by omega, RO.of_rd fun j u hj => ⟨g, off, len, m, rfl, ?_⟩, fun i x l hi hli => (h3 i x l hi hli).2.1⟩, fun l hl => ?_⟩
    rotate_left
    · obtain ⟨i, hi⟩ := List.getElem?_of_mem hl
      have hb := (List.getElem?_eq_some_iff.1 hi).1
      exact (h3 i _ l (List.getElem?_eq_getElem (show i < hs.length by omega)) hi).2.2
    have hlt := (List.getElem?_eq_some_iff.1 hj).1
    obtain ⟨l, hl2⟩ : ∃ l, ls[j]? = some l := ⟨_, List.getElem?_eq_getElem (by omega)⟩
    exact (h3 j u l hj hl2).1
end
end Go.Proofs.YtpajjnkmaebhcabGreat
end
